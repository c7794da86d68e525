import Derived.Test.YtmljihfaapoakaaSMessagesB
import Derived.Test.YtmljihfaapoakaaSMessagesA
import Derived.Maps.AppendAt
import Derived.Test.YtmljihfaapoakaaSMessagesE
import Derived.Test.YtmljihfaapoakaaSMessagesF

section
namespace Go.Proofs.Ytmljihfaapoakaa
open Go.RowKit
set_option linter.unusedVariables false
set_option linter.unusedSimpArgs false
section
variable {P : Program} {L M : World → World → Prop} {J J1 : World → Prop} {j0 : Nat}
def seqUpon (P : Program) (Q : Act → World → Prop) : List Oper → Act → World → Prop
  | [], A, w => Q A w
  | o :: r, A, w => lastUpon P (seqUpon P Q r) o A ((execOp A.eval o).run P w)
structure SeqUpon (P : Program) (Q : Act → World → Prop) (l : List Oper) (A : Act) (w : World) : Prop where
  out : seqUpon P Q l A w
theorem flowUponL_imp {P : Program} {L : World → World → Prop} {R R' : VPred} {w : World} {r : Result Next} (h : flowUponL P L R w r) (hi : ∀ W u, R W u → R' W u) : flowUponL P L R' w r := by
  cases r with
  | ok n w' =>
    cases n <;> simp only [flowUponL] at h ⊢
    case value u => exact ⟨h.1, hi _ _ h.2⟩
    case skip => exact ⟨h.1, hi _ _ h.2⟩
    case enter f args =>
      refine h.mono ?_
      rintro e w2 ⟨v, rfl, hb, hr⟩
      exact ⟨v, rfl, hb, hi _ _ hr⟩
  | halt x w' => simp only [flowUponL] at h
def FlowT (P : Program) (L M : World → World → Prop) (J J1 : World → Prop) (j0 : Nat) (w : World) (a : Act) (bs : List Nat) (Q : Exit → Act → World → Prop) (l0 : List Oper) (n0 : Nat) : Nat → List Oper → Nat → FTab → Prop
  | 0, rest, _, T => ∀ x w', L w w' → allT x w' T → (j0 < n0 → J1 w') → SeqUpon P (Q .normal) rest (frameOf x (l0.take n0) 0 a) w'
  | _ + 1, [], _, _ => False
  | m + 1, o :: rest, i, T => ∃ R : VPred, (if i = j0 then VMonoL M R else VMonoL L R) ∧
      (∀ A w', L w w' → (i = j0 → J w') → baseF A a bs → deps T A w' o.after.toList → flowUponL P (if i = j0 then L else M) (fun W u => R W u ∧ (i = j0 → J1 W)) w' ((execOp A.eval o).run P w')) ∧ FlowT P L M J J1 j0 w a bs Q l0 n0 m rest (i + 1) (addT o i R T)
theorem flow_tableT {w : World} {a : Act} {bs : List Nat} {Q : Exit → Act → World → Prop} {l0 : List Oper} {n0 : Nat} : ∀ (m : Nat) (rest : List Oper) (i : Nat) (T : FTab), (∀ k d R, (k, d, R) ∈ T → k < i) → FlowT P L M J J1 j0 w a bs Q l0 n0 m rest i T →
    ∃ (T' : FTab), m ≤ rest.length ∧ (∀ x ∈ T, x ∈ T') ∧ (∀ k d R, (k, d, R) ∈ T' → k < i → (k, d, R) ∈ T) ∧ (∀ k d R, (k, d, R) ∈ T' → k < i + m) ∧
      (∀ (j : Nat) (o : Oper), rest[j]? = some o → j < m → ∃ R, (if i + j = j0 then VMonoL M R else VMonoL L R) ∧ (∀ d' R', (i + j, d', R') ∈ T' → o.dst = some d' ∧ R' = R) ∧
        (∀ A w', L w w' → (i + j = j0 → J w') → baseF A a bs → (∀ e ∈ o.after.toList, Region.binds .any e = true → ∀ d R, (e.on, d, R) ∈ T' → R w' (A.eval (.tmp d))) → flowUponL P (if i + j = j0 then L else M) (fun W u => R W u ∧ (i + j = j0 → J1 W)) w' ((execOp A.eval o).run P w'))) ∧
      (∀ x w', L w w' → allT x w' T' → (j0 < n0 → J1 w') → SeqUpon P (Q .normal) (rest.drop m) (frameOf x (l0.take n0) 0 a) w')
  | 0, rest, i, T, hT, h => ⟨T, by simp, fun _ h => h, fun _ _ _ h _ => h, fun k d R hm => by simpa using hT k d R hm, fun j o hj hl => by omega, by rw [List.drop_zero]; exact h⟩
  | m + 1, [], i, T, hT, h => h.elim
  | m + 1, o :: rest, i, T, hT, h => by
    obtain ⟨R, hmono, hobl, hrest⟩ := h
    have hT1 : ∀ k d R', (k, d, R') ∈ addT o i R T → k < i + 1 := fun k d R' hm => by
      unfold addT at hm
      split at hm
      · rcases List.mem_cons.1 hm with hm | hm
        · simp only [Prod.mk.injEq] at hm; omega
        · have := hT k d R' hm; omega
      · have := hT k d R' hm; omega
    have hsub : ∀ y ∈ T, y ∈ addT o i R T := fun y hy => by
      unfold addT
      split
      · exact .tail _ hy
      · exact hy
    obtain ⟨T', hlen, h1, h2, h3, h4, h5⟩ := flow_tableT m rest (i + 1) (addT o i R T) hT1 hrest
    refine ⟨T', by simp only [List.length_cons]; omega, fun y hy => h1 y (hsub y hy), fun k d R' hm hk => ?_, fun k d R' hm => ?_, fun j o' hj hjl => ?_, by simpa using h5⟩
    · have := h2 k d R' hm (by omega)
      unfold addT at this
      split at this
      · rcases List.mem_cons.1 this with hm | hm
        · simp only [Prod.mk.injEq] at hm; omega
        · exact hm
      · exact this
    · have := h3 k d R' hm
      omega
    · cases j with
      | zero =>
        simp only [List.getElem?_cons_zero, Option.some.injEq] at hj
        subst hj
        refine ⟨R, hmono, fun d' R' hm => ?_, fun A w' hb hj hbase hd => hobl A w' hb hj hbase (deps_of fun e he hbn d R' hm => hd e he hbn d R' (h1 _ (hsub _ hm)))⟩
        have := h2 _ d' R' hm (by omega)
        unfold addT at this
        split at this
        · rename_i dd hdd
          rcases List.mem_cons.1 this with hm | hm
          · simp only [Prod.mk.injEq] at hm
            exact ⟨by rw [hdd, hm.2.1], hm.2.2⟩
          · have := hT _ d' R' hm; omega
        · have := hT _ d' R' this; omega
      | succ j =>
        simp only [List.getElem?_cons_succ] at hj
        obtain ⟨R2, a1, a2, a3⟩ := h4 j o' hj (by omega)
        rw [show i + 1 + j = i + (j + 1) from by omega] at a1 a2 a3
        exact ⟨R2, a1, a2, a3⟩
def edgesOf (l : List Oper) (j : Nat) : List Nat := match l[j]? with
  | some o => (o.after.toList.filter (fun e => Region.binds .any e)).map (·.on)
  | none => []
def ancF (l : List Oper) : Nat → List Nat → List Nat
  | 0, S => S
  | j + 1, S => ancF l j (if S.contains j then S ++ edgesOf l j else S)
def tailOrd (l : List Oper) (n0 : Nat) : Bool := (List.range l.length).all fun d => decide (d < n0) || (List.range d).all fun i => (ancF l d (edgesOf l d)).contains i
theorem edges_listed {l : List Oper} {listed : Array Bool} (hcl : ∀ (j : Nat) (o : Oper), l[j]? = some o → listed.getD j false = true → ∀ e ∈ o.after.toList, Region.binds .any e = true → listed.getD e.on false = true) (j : Nat) (hj : listed.getD j false = true) :
    ∀ i ∈ edgesOf l j, listed.getD i false = true := by
  intro i hi
  unfold edgesOf at hi
  split at hi
  · rename_i o ho
    obtain ⟨e, he, rfl⟩ := List.mem_map.1 hi
    obtain ⟨he1, he2⟩ := List.mem_filter.1 he
    exact hcl j o ho hj e he1 he2
  · cases hi
theorem anc_listed {l : List Oper} {listed : Array Bool} (hcl : ∀ (j : Nat) (o : Oper), l[j]? = some o → listed.getD j false = true → ∀ e ∈ o.after.toList, Region.binds .any e = true → listed.getD e.on false = true) :
    ∀ (n : Nat) (S : List Nat), (∀ i ∈ S, listed.getD i false = true) → ∀ i ∈ ancF l n S, listed.getD i false = true
  | 0, S, h => h
  | n + 1, S, h => by
    unfold ancF
    refine anc_listed hcl n _ ?_
    split
    · rename_i hc
      intro i hi
      rcases List.mem_append.1 hi with hi | hi
      · exact h i hi
      · exact edges_listed hcl n (h n (by simpa using hc)) i hi
    · exact h
theorem tail_listed {l : List Oper} {n0 d : Nat} {listed : Array Bool} {o : Oper} (hT : tailOrd l n0 = true) (hd : n0 ≤ d) (ho : l[d]? = some o)
    (hcl : ∀ (j : Nat) (o : Oper), l[j]? = some o → listed.getD j false = true → ∀ e ∈ o.after.toList, Region.binds .any e = true → listed.getD e.on false = true)
    (haft : ∀ e ∈ o.after.toList, Region.binds .any e = true → listed.getD e.on false = true) (i : Nat) (hi : i < d) : listed.getD i false = true := by
  have hdl : d < l.length := (List.getElem?_eq_some_iff.1 ho).1
  have h1 := List.all_eq_true.1 hT d (List.mem_range.2 hdl)
  simp only [Bool.or_eq_true, decide_eq_true_eq] at h1
  have h2 := List.all_eq_true.1 (h1.resolve_left (by omega)) i (List.mem_range.2 hi)
  refine anc_listed hcl d (edgesOf l d) ?_ i (by simpa using h2)
  intro k hk
  unfold edgesOf at hk
  rw [ho] at hk
  obtain ⟨e, he, rfl⟩ := List.mem_map.1 hk
  obtain ⟨he1, he2⟩ := List.mem_filter.1 he
  exact haft e he1 he2
theorem wp_region_flowT {id : Nat} {Q : Exit → Act → World → Prop} {a : Act} {w : World} {l : List Oper} (j0 : Nat) (hJ0 : J w.drew) (hJM : ∀ a b, J a → M a b → J b) (hJ1M : ∀ a b, J1 a → M a b → J1 b) (hML : ∀ a b, M a b → L a b) (hdr : ∀ w : World, L w w.drew) (htr : ∀ a b c, L a b → L b c → L a c) (bs : List Nat) (n n0 : Nat) (hm : P.follows .mixedOrders = true) (hn : a.tmps.size = n)
    (hB : flowB n l = true) (hO : flowO l 0 = true) (hT : tailOrd l n0 = true) (hbs : bs.all (fun t => (l.take n0).all (fun o => o.dst != some t)) = true) (h : FlowT P L M J J1 j0 w a bs Q l n0 n0 l 0 []) : (Code.region id l.toArray true).wp P Q a w := by
  obtain ⟨T, hn0, -, -, hlen, hobl, hfin⟩ := flow_tableT n0 l 0 [] (by simp) h
  subst hn
  have htake : ∀ i, i < n0 → (l.take n0)[i]? = l[i]? := fun i hi => by rw [List.getElem?_take, if_pos hi]
  -- what the frame is when all the first ones are done
  have hframe : ∀ (A : Act) (w' : World) (listed : Array Bool), (∀ k, k < n0 → listed.getD k false = true) → (∀ k, n0 ≤ k → k < l.length → listed.getD k false = false) → L w w' → A.defers = a.defers → A.tmps.size = a.tmps.size →
      (∀ t, a.tmps[t]? ≠ A.tmps[t]? → ∃ (i : Nat) (o : Oper), l[i]? = some o ∧ o.dst = some t ∧ listed.getD i false = true) → (∀ i d R, (i, d, R) ∈ T → listed.getD i false = true → R w' (A.eval (.tmp d))) → (listed.getD j0 false = true → J1 w') → seqUpon P (Q .normal) (l.drop n0) A w' := by
    intro A w' listed hdone hno hbel hdef hts hdiff hall hJ1
    have hx : frameOf (fun i => match (l[i]?).bind (·.dst) with | some d => A.eval (.tmp d) | none => undef) (l.take n0) 0 a = A := by
      refine frame_eq _ A (l.take n0) 0 a hdef hts (fun i o d hi hd hlt => ?_) (fun t ht => ?_)
      · have hi1 : i < n0 := by have := (List.getElem?_eq_some_iff.1 hi).1; simp at this; omega
        rw [htake i hi1] at hi
        simp only [Nat.zero_add, hi, Option.bind_some, hd, Act.eval, Array.getD_eq_getD_getElem?]
        have : d < A.tmps.size := by rw [hts]; exact hlt
        simp [this]
      · obtain ⟨j, oj, hj, hdj, hlj⟩ := hdiff t ht
        have hjl : j < l.length := (List.getElem?_eq_some_iff.1 hj).1
        have hj1 : j < n0 := by
          by_cases hjj : j < n0
          · exact hjj
          · rw [hno j (by omega) hjl] at hlj; cases hlj
        exact ⟨j, oj, (htake j hj1).trans hj, hdj⟩
    have hq := hfin (fun i => match (l[i]?).bind (·.dst) with | some d => A.eval (.tmp d) | none => undef) w' hbel (allT_of fun k d R hmem => by
      have hk1 : k < n0 := by simpa using hlen k d R hmem
      have hkl : k < l.length := by omega
      have hko : l[k]? = some l[k] := by simp [hkl]
      obtain ⟨R2, -, huniq2, -⟩ := hobl k l[k] hko hk1
      simp only [Nat.zero_add] at huniq2
      obtain ⟨hod, -⟩ := huniq2 d R hmem
      simp only [hko, Option.bind_some, hod]
      exact hall k d R hmem (hdone k hk1)) (fun h => hJ1 (hdone j0 h))
    rw [hx] at hq
    exact hq.out
  refine wp_region_any hm ?_
  refine wpAny_inv (fun listed A w' => listed.size = l.length ∧ (∀ (j : Nat) (o : Oper), l[j]? = some o → listed.getD j false = true → ∀ e ∈ o.after.toList, Region.binds .any e = true → listed.getD e.on false = true) ∧
      (((∀ k, n0 ≤ k → k < l.length → listed.getD k false = false) ∧ L w w' ∧ A.defers = a.defers ∧ A.tmps.size = a.tmps.size ∧ (∀ t, a.tmps[t]? ≠ A.tmps[t]? → ∃ (i : Nat) (o : Oper), l[i]? = some o ∧ o.dst = some t ∧ listed.getD i false = true) ∧
      (∀ i d R, (i, d, R) ∈ T → listed.getD i false = true → R w' (A.eval (.tmp d))) ∧ (listed.getD j0 false = false → J w') ∧ (listed.getD j0 false = true → J1 w')) ∨ (∃ k, n0 < k ∧ k ≤ l.length ∧ (∀ i, i < k → listed.getD i false = true) ∧ (∀ i, k ≤ i → i < l.length → listed.getD i false = false) ∧ seqUpon P (Q .normal) (l.drop k) A w'))) ?_ ?_ (fun listed => unl listed.toList) ?_ _ _ _ _ ?_ ?_
  · rintro listed A w' i ⟨hsz, hcl, hI⟩ hi
    obtain ⟨hun, o, ho, haft⟩ := mem_ready.1 hi
    have ho' : l[i]? = some o := by simpa using ho
    have hil : i < l.length := (List.getElem?_eq_some_iff.1 ho').1
    obtain ⟨hg, hd⟩ := flowB_spec hB i o ho'
    have haft' : ∀ e ∈ o.after.toList, Region.binds .any e = true → listed.getD e.on false = true := fun e he hb => haft e (by simpa using he) hb
    have hcl' : ∀ (j : Nat) (oj : Oper), l[j]? = some oj → (listed.setIfInBounds i true).getD j false = true → ∀ e ∈ oj.after.toList, Region.binds .any e = true → (listed.setIfInBounds i true).getD e.on false = true := by
      intro j oj hj hlj e he hb
      by_cases hij : i = j
      · subst hij
        obtain rfl : o = oj := by rw [ho'] at hj; exact Option.some.inj hj
        exact getD_set_mono (haft' e he hb)
      · rw [getD_set_ne false hij] at hlj
        exact getD_set_mono (hcl j oj hj hlj e he hb)
    have hself : (listed.setIfInBounds i true).getD i false = true := getD_set_self (by omega)
    have hunF : listed.getD i false = false := by
      rw [getD_ft (by omega)]; simpa using hun
    unfold wpOp
    rw [ho]
    simp only [Region.wanted, hg, if_true]
    -- a step of the tail
    have htailstep : ∀ k, n0 ≤ k → (∀ j, j < k → listed.getD j false = true) → (∀ j, k ≤ j → j < l.length → listed.getD j false = false) → k ≤ i → seqUpon P (Q .normal) (l.drop k) A w' → o.wp P A w' (fun a' w2 => (listed.setIfInBounds i true).size = l.length ∧ (∀ (j : Nat) (o : Oper), l[j]? = some o → (listed.setIfInBounds i true).getD j false = true → ∀ e ∈ o.after.toList, Region.binds .any e = true → (listed.setIfInBounds i true).getD e.on false = true) ∧
      (((∀ k, n0 ≤ k → k < l.length → (listed.setIfInBounds i true).getD k false = false) ∧ L w w2 ∧ a'.defers = a.defers ∧ a'.tmps.size = a.tmps.size ∧ (∀ t, a.tmps[t]? ≠ a'.tmps[t]? → ∃ (i_1 : Nat) (o : Oper), l[i_1]? = some o ∧ o.dst = some t ∧ (listed.setIfInBounds i true).getD i_1 false = true) ∧
      (∀ i_1 d R, (i_1, d, R) ∈ T → (listed.setIfInBounds i true).getD i_1 false = true → R w2 (a'.eval (.tmp d))) ∧ ((listed.setIfInBounds i true).getD j0 false = false → J w2) ∧ ((listed.setIfInBounds i true).getD j0 false = true → J1 w2)) ∨ (∃ k, n0 < k ∧ k ≤ l.length ∧ (∀ i_1, i_1 < k → (listed.setIfInBounds i true).getD i_1 false = true) ∧ (∀ i_1, k ≤ i_1 → i_1 < l.length → (listed.setIfInBounds i true).getD i_1 false = false) ∧ seqUpon P (Q .normal) (l.drop k) a' w2))) Q := by
      intro k hk hdone hno hki hseq
      obtain rfl : i = k := by
        rcases Nat.lt_or_ge k i with hlt | hge
        · have := tail_listed hT (by omega) ho' hcl haft' k hlt
          rw [hno k (Nat.le_refl _) (by omega)] at this
          cases this
        · omega
      have hdc : l.drop i = o :: l.drop (i + 1) := by
        rw [List.drop_eq_getElem_cons hil]
        congr 1
        have := List.getElem?_eq_getElem hil
        rw [ho'] at this
        exact (Option.some.inj this).symm
      rw [hdc] at hseq
      simp only [seqUpon] at hseq
      refine last_upon hseq fun v w2 hv => ⟨by simpa using hsz, hcl', .inr ⟨i + 1, by omega, by omega, fun j hj => ?_, fun j hj hjl => ?_, hv⟩⟩
      · by_cases hji : i = j
        · subst hji; exact hself
        · exact getD_set_mono (hdone j (by omega))
      · rw [getD_set_ne false (by omega)]; exact hno j (by omega) hjl
    rcases hI with ⟨hno, hbel, hdef, hts, hdiff, hall, hJ, hJ1⟩ | ⟨k, hk0, hkl, hdone, hno, hseq⟩
    · by_cases hil1 : i < n0
      · obtain ⟨R, hmono, huniq, hob⟩ := hobl i o ho' hil1
        simp only [Nat.zero_add] at huniq hmono hob
        have hstep : ∀ v w2, (L w' w2) → (∀ k d R', (k, d, R') ∈ T → i ≠ k → listed.getD k false = true → R' w2 (A.eval (.tmp d))) → R w2 v → ((listed.setIfInBounds i true).getD j0 false = false → J w2) → ((listed.setIfInBounds i true).getD j0 false = true → J1 w2) → (listed.setIfInBounds i true).size = l.length ∧ (∀ (j : Nat) (o : Oper), l[j]? = some o → (listed.setIfInBounds i true).getD j false = true → ∀ e ∈ o.after.toList, Region.binds .any e = true → (listed.setIfInBounds i true).getD e.on false = true) ∧
      (((∀ k, n0 ≤ k → k < l.length → (listed.setIfInBounds i true).getD k false = false) ∧ L w w2 ∧ (A.put o.dst v).defers = a.defers ∧ (A.put o.dst v).tmps.size = a.tmps.size ∧ (∀ t, a.tmps[t]? ≠ (A.put o.dst v).tmps[t]? → ∃ (i_1 : Nat) (o : Oper), l[i_1]? = some o ∧ o.dst = some t ∧ (listed.setIfInBounds i true).getD i_1 false = true) ∧
      (∀ i_1 d R, (i_1, d, R) ∈ T → (listed.setIfInBounds i true).getD i_1 false = true → R w2 ((A.put o.dst v).eval (.tmp d))) ∧ ((listed.setIfInBounds i true).getD j0 false = false → J w2) ∧ ((listed.setIfInBounds i true).getD j0 false = true → J1 w2)) ∨ (∃ k, n0 < k ∧ k ≤ l.length ∧ (∀ i_1, i_1 < k → (listed.setIfInBounds i true).getD i_1 false = true) ∧ (∀ i_1, k ≤ i_1 → i_1 < l.length → (listed.setIfInBounds i true).getD i_1 false = false) ∧ seqUpon P (Q .normal) (l.drop k) (A.put o.dst v) w2)) := by
          intro v w2 hb2 hkeep hR hJ2 hJ3
          refine ⟨by simpa using hsz, hcl', .inl ⟨fun k hk hkl => ?_, htr _ _ _ hbel hb2, ?_, ?_, ?_, ?_, hJ2, hJ3⟩⟩
          · rw [getD_set_ne false (by omega)]; exact hno k hk hkl
          · rw [← hdef]; unfold Act.put; split <;> rfl
          · rw [← hts]; unfold Act.put; split <;> simp
          · intro t ht
            by_cases hdt : o.dst = some t
            · exact ⟨i, o, ho', hdt, hself⟩
            · refine (hdiff t fun he => ht ?_).imp fun j => Exists.imp fun oj h => ⟨h.1, h.2.1, getD_set_mono h.2.2⟩
              rw [he]
              unfold Act.put
              split
              · rename_i t' ht'
                have : t' ≠ t := fun e => hdt (by rw [ht', e])
                rw [Array.getElem?_setIfInBounds_ne this]
              · rfl
          · intro k d R' hmem hk
            have hk1 : k < n0 := by simpa using hlen k d R' hmem
            by_cases hki : i = k
            · subst hki
              obtain ⟨hod, rfl⟩ := huniq d R' hmem
              rw [eval_put_eq hod (by rw [hts]; exact (hd d hod).1)]
              exact hR
            · have hk' : listed.getD k false = true := by rw [getD_set_ne false hki] at hk; exact hk
              have hkl : k < l.length := by omega
              have hko : l[k]? = some l[k] := by simp [hkl]
              obtain ⟨R2, hmono2, huniq2, -⟩ := hobl k l[k] hko hk1
              simp only [Nat.zero_add] at huniq2
              obtain ⟨hod, -⟩ := huniq2 d R' hmem
              have hne : o.dst ≠ some d := fun hd0 => by
                rcases Nat.lt_or_gt_of_ne hki with h | h
                · exact (hd d hd0).2 k l[k] hko h hod
                · exact ((flowB_spec hB k l[k] hko).2 d hod).2 i o ho' h hd0
              rw [eval_put_ne hne]
              exact hkeep k d R' hmem hki hk'
        have hbase : baseF A a bs := baseF_of fun t ht => by
          have h1 := List.all_eq_true.1 hbs t ht
          have h2 : ∀ o ∈ l.take n0, o.dst ≠ some t := fun o ho => by simpa using List.all_eq_true.1 h1 o ho
          have h3 : a.tmps[t]? = A.tmps[t]? := Classical.byContradiction fun hne => by
            obtain ⟨j, oj, hj, hdj, hlj⟩ := hdiff t hne
            have hjl : j < l.length := (List.getElem?_eq_some_iff.1 hj).1
            have hj1 : j < n0 := by
              by_cases hjj : j < n0
              · exact hjj
              · rw [hno j (by omega) hjl] at hlj; cases hlj
            exact h2 oj (List.mem_of_getElem? ((htake j hj1).trans hj)) hdj
          simp only [Act.eval, Array.getD_eq_getD_getElem?, h3]
        have hobA := hob A w' hbel (fun e => hJ (by rw [← e]; exact hunF)) hbase fun e he hb d R hmem => hall _ d R hmem (haft' e he hb)
        -- the facts of the others are kept
        have hkeepL : ∀ w2, L w' w2 → (∀ k d R', (k, d, R') ∈ T → i ≠ k → k ≠ j0 → listed.getD k false = true → R' w2 (A.eval (.tmp d))) := by
          intro w2 hb2 k d R' hmem hki hkj hk'
          have hk1 : k < n0 := by simpa using hlen k d R' hmem
          have hkl : k < l.length := by omega
          obtain ⟨R2, hmono2, huniq2, -⟩ := hobl k l[k] (by simp [hkl]) hk1
          simp only [Nat.zero_add] at huniq2 hmono2
          obtain ⟨-, rfl⟩ := huniq2 d R' hmem
          rw [if_neg hkj] at hmono2
          exact hmono2 _ _ _ (hall k d R' hmem hk') hb2
        by_cases hij : i = j0
        · rw [if_pos hij] at hobA
          exact .inl (flow_uponL hobA fun v w2 hb2 hR => hstep v w2 hb2 (fun k d R' hmem hki hk' => hkeepL w2 hb2 k d R' hmem hki (by omega) hk') hR.1 (fun h => by rw [← hij, hself] at h; cases h) (fun _ => hR.2 hij))
        · rw [if_neg hij] at hobA
          refine .inl (flow_uponL hobA fun v w2 hb2 hR => hstep v w2 (hML _ _ hb2) (fun k d R' hmem hki hk' => ?_) hR.1 (fun h => hJM _ _ (hJ (by rwa [getD_set_ne false hij] at h)) hb2) (fun h => hJ1M _ _ (hJ1 (by rwa [getD_set_ne false hij] at h)) hb2))
          by_cases hkj : k = j0
          · have hk1 : k < n0 := by simpa using hlen k d R' hmem
            have hkl : k < l.length := by omega
            obtain ⟨R2, hmono2, huniq2, -⟩ := hobl k l[k] (by simp [hkl]) hk1
            simp only [Nat.zero_add] at huniq2 hmono2
            obtain ⟨-, rfl⟩ := huniq2 d R' hmem
            rw [if_pos hkj] at hmono2
            exact hmono2 _ _ _ (hall k d R' hmem hk') hb2
          · exact hkeepL w2 (hML _ _ hb2) k d R' hmem hki hkj hk'
      · have hdone : ∀ j, j < n0 → listed.getD j false = true := fun j hj => tail_listed hT (by omega) ho' hcl haft' j (by omega)
        exact .inl (htailstep n0 (Nat.le_refl _) hdone hno (by omega) (hframe A w' listed hdone hno hbel hdef hts hdiff hall hJ1))
    · have hki : k ≤ i := by
        rcases Nat.lt_or_ge i k with hlt | hge
        · rw [hdone i hlt] at hunF; cases hunF
        · exact hge
      exact .inl (htailstep k (by omega) hdone hno hki hseq)
  · rintro listed A w' ⟨hsz, hcl, hI⟩ hno
    have hdone : ∀ k, k < l.length → listed.getD k false = true := by
      intro k
      induction k using Nat.strongRecOn with
      | _ k ih =>
        intro hk
        refine Classical.byContradiction fun hf => hno k (mem_ready.2 ⟨?_, l[k], by simp [hk], fun e he hb => ?_⟩)
        · have hks : k < listed.size := by omega
          simp only [Array.getD_eq_getD_getElem?, Array.getElem?_eq_getElem hks, Option.getD_some] at hf ⊢
          simpa using hf
        · have hlt := flowO_spec hO k l[k] (by simp [hk]) e (by simpa using he) hb
          exact ih e.on (by omega) (by omega)
    rcases hI with ⟨hnl, hbel, hdef, hts, hdiff, hall, -, hJ1⟩ | ⟨k, hk0, hkl, -, hnl, hseq⟩
    · have hnn : n0 = l.length := by
        rcases Nat.lt_or_ge n0 l.length with h | h
        · have := hnl n0 (Nat.le_refl _) h
          rw [hdone n0 h] at this; cases this
        · omega
      have := hframe A w' listed (fun k hk => hdone k (by omega)) hnl hbel hdef hts hdiff hall hJ1
      rw [hnn, List.drop_length] at this
      exact this
    · have hkk : k = l.length := by
        rcases Nat.lt_or_ge k l.length with h | h
        · have := hnl k (Nat.le_refl _) h
          rw [hdone k h] at this; cases this
        · omega
      rw [hkk, List.drop_length] at hseq
      exact hseq
  · rintro listed A w' i ⟨hsz, -⟩ hi
    obtain ⟨hun, o, ho, -⟩ := mem_ready.1 hi
    have hil : i < listed.size := by have := (Array.getElem?_eq_some_iff.1 ho).1; simp at this; omega
    simp only [Array.toList_setIfInBounds]
    refine unl_set _ _ ?_
    simp only [Array.getD_eq_getD_getElem?, Array.getElem?_eq_getElem hil, Option.getD_some] at hun
    simp [hil, hun]
  · simp [unl_rep]
  · refine ⟨by simp, fun j o _ hl => ?_, .inl ⟨fun k hk hkl => ?_, hdr w, rfl, rfl, fun t ht => absurd rfl ht, fun i d R _ hl => ?_, fun _ => hJ0, fun hl => ?_⟩⟩
    · simp [Array.getD_eq_getD_getElem?, Array.getElem?_replicate] at hl; split at hl <;> simp at hl
    · simp [Array.getD_eq_getD_getElem?, Array.getElem?_replicate]; split <;> simp
    · simp [Array.getD_eq_getD_getElem?, Array.getElem?_replicate] at hl; split at hl <;> simp at hl
    · simp [Array.getD_eq_getD_getElem?, Array.getElem?_replicate] at hl; split at hl <;> simp at hl
section
variable {w : World} {a : Act} {bs : List Nat} {Q : Exit → Act → World → Prop} {l0 rest : List Oper} {n0 m i : Nat} {T : FTab} {d : Tmp} {op : Op} {ty : TypeId} {pos : String} {es : Array Edge} {g : Option (Nat × Bool)}
theorem flowT_valE (hij : i ≠ j0)
    (h : ∃ e, (∀ A w', L w w' → baseF A a bs → deps T A w' es.toList → flowUponL P M (fun _ v => v = e) w' ((execOp A.eval ⟨some d, op, ty, pos, es, g⟩).run P w')) ∧
      FlowT P L M J J1 j0 w a bs Q l0 n0 m rest (i + 1) ((i, d, fun _ v => v = e) :: T)) : FlowT P L M J J1 j0 w a bs Q l0 n0 (m + 1) (⟨some d, op, ty, pos, es, g⟩ :: rest) i T := by
  obtain ⟨e, h, k⟩ := h
  exact ⟨_, by rw [if_neg hij]; exact fun _ _ _ h _ => h, by rw [if_neg hij]; exact fun A w' hl _ hb hd => flowUponL_imp (h A w' hl hb hd) (fun _ _ hr => ⟨hr, fun e => absurd e hij⟩), k⟩
theorem flowT_R (hij : i ≠ j0) (R : VPred) (hm : VMonoL L R)
    (h : ∀ A w', L w w' → baseF A a bs → deps T A w' es.toList → flowUponL P M R w' ((execOp A.eval ⟨some d, op, ty, pos, es, g⟩).run P w'))
    (k : FlowT P L M J J1 j0 w a bs Q l0 n0 m rest (i + 1) ((i, d, R) :: T)) : FlowT P L M J J1 j0 w a bs Q l0 n0 (m + 1) (⟨some d, op, ty, pos, es, g⟩ :: rest) i T := ⟨R, by rw [if_neg hij]; exact hm, by rw [if_neg hij]; exact fun A w' hl _ hb hd => flowUponL_imp (h A w' hl hb hd) (fun _ _ hr => ⟨hr, fun e => absurd e hij⟩), k⟩
theorem flowT_row (hij : i = j0) (R : VPred) (hm : VMonoL M R)
    (h : ∀ A w', L w w' → J w' → baseF A a bs → deps T A w' es.toList → flowUponL P L (fun W u => R W u ∧ J1 W) w' ((execOp A.eval ⟨some d, op, ty, pos, es, g⟩).run P w'))
    (k : FlowT P L M J J1 j0 w a bs Q l0 n0 m rest (i + 1) ((i, d, R) :: T)) : FlowT P L M J J1 j0 w a bs Q l0 n0 (m + 1) (⟨some d, op, ty, pos, es, g⟩ :: rest) i T := ⟨R, by rw [if_pos hij]; exact hm, by rw [if_pos hij]; exact fun A w' hl hj hb hd => flowUponL_imp (h A w' hl (hj hij) hb hd) (fun _ _ hr => ⟨hr.1, fun _ => hr.2⟩), k⟩
theorem flowT_tail
    (h : ∀ x w', L w w' → allT x w' T → (j0 < n0 → J1 w') → SeqUpon P (Q .normal) rest (frameOf x (l0.take n0) 0 a) w') : FlowT P L M J J1 j0 w a bs Q l0 n0 0 rest i T := h
end
end
end Go.Proofs.Ytmljihfaapoakaa
end

section
namespace Go.Proofs.Ytmljihfaapoakaa.PFnMessages
open Go.RowKit Go.Proofs.YtmljihfaapoakaaW.PrintWords
set_option linter.unusedSimpArgs false
set_option linter.unusedVariables false
theorem run_append_R {P : Program} {α : Type} (d : Kd α) (W : World) (base t ty e : Nat) (z : Value) (bytes : Nat) (ht : P.underlying t = some (.slice e)) (hinfo : (P.info? e).map (fun i => (i.zero, i.size, i.bytes)) = some (some z, d.sz, bytes)) (hz : z.cells.size = d.sz) (hs0 : 0 < d.sz) (hb0 : 0 < bytes)
    (v : Value) (xs : List α) (p : α) (cs : List Value) (ok okp : Nat → Prop) (ad : Addr) (c : Nat) (hnews : ∀ j u, cs[j]? = some u → W.cell? (ad.add j) = some u) (hp : d.M W base okp p cs) (hokp : ∀ k, okp k → ok k ∧ some k ≠ v.ownBlock) (hfresh : ∀ k, W.heap.size ≤ k → ok k)
    (HO : d.R e W base ok v xs) (hbase : base ≤ W.heap.size) (hl : (xs.length + 1) * bytes ≤ 140737488355328) :
    ∃ v1 w1, (Builtin.append_ #[t, t] ty #[v, .slice (some ad) 1 c]).run P W = .ok v1 w1 ∧ d.R e w1 base ok v1 (xs ++ [p]) ∧ W.grownBy w1 v.ownBlock ∧ (v1.ownBlock = v.ownBlock ∨ ∃ b, v1.ownBlock = some b ∧ W.heap.size ≤ b) := by
  obtain ⟨h0, inner, hown, hr⟩ := HO
  cases hi : P.info? e with
  | none => rw [hi] at hinfo; simp at hinfo
  | some i =>
    rw [hi] at hinfo
    simp only [Option.map_some, Option.some.injEq, Prod.mk.injEq] at hinfo
    obtain ⟨i1, i2, i3⟩ := hinfo
    have hlen := d.K_len (d.K_of_M hp)
    have h63 : xs.length + 1 ≤ maxLen := by
      have : xs.length + 1 ≤ (xs.length + 1) * bytes := Nat.le_mul_of_pos_right _ hb0
      unfold maxLen; omega
    obtain ⟨v1, w1, hrun, hown1, hg, -, hat⟩ := run_append_own_at (P := P) (w := W) base t ty e i z d.sz bytes ht hi i1 i2 i3 hz hs0 v xs.length inner hown ad 1 c cs (by rw [hlen, Nat.one_mul]) hnews (d.K_one (d.K_of_M hp)) h63 hl hbase
    have hat' : v1.ownBlock = v.ownBlock ∨ ∃ b, v1.ownBlock = some b ∧ W.heap.size ≤ b := hat.imp id fun h => ⟨_, h, Nat.le_refl _⟩
    exact ⟨v1, w1, hrun, Kd.R_appended h0 hr hp hokp hfresh hown1 hg hat', hg, hat'⟩
theorem exec_append {P : Program} {A : Act} {W w1 : World} {s x : Operand} {t ty : TypeId} {v1 : Value} {dd : Option Tmp} {pos : String} {es : Array Edge} {g : Option (Nat × Bool)} (hr : (Builtin.append_ #[t, t] ty #[A.eval s, A.eval x]).run P W = .ok v1 w1) :
    (execOp A.eval ⟨dd, .call { callee := .builtin .append, args := #[s, x], argTypes := #[t, t] }, ty, pos, es, g⟩).run P W = .ok (.value v1) w1 := by
  unfold execOp
  simp only [resolve, invoke, builtin, Sem.run_bind, Sem.run_pure, Result.andThen_ok, List.map_toArray, List.map_cons, List.map_nil, hr]
end Go.Proofs.Ytmljihfaapoakaa.PFnMessages
end

section
namespace Go.Proofs.Ytmljihfaapoakaa.PFnMessages
open Go.RowKit Go.Proofs.YtmljihfaapoakaaW.PrintWords
set_option linter.unusedSimpArgs false
set_option linter.unusedVariables false
def Ents (w : World) (W : World) (v : Value) (xs : List S43) : Prop := Kd.R k43 43 W w.heap.size (fun k => w.heap.size ≤ k) v xs ∧ ∀ x ∈ xs, x.f2.size ≤ 200
theorem Ents.keep {w W W' : World} {v : Value} {xs : List S43} {g : Nat} (h : Ents w W v xs) (hk : KeepBut W W' g none) (hg : g < w.heap.size) : Ents w W' v xs :=
  ⟨Kd.R_keep h.1 hk (fun k hk => by omega), h.2⟩
theorem Ents.below {w W W' : World} {v : Value} {xs : List S43} (h : Ents w W v xs) (hb : Below W.heap.size W W') : Ents w W' v xs := ⟨Kd.R_below h.1 hb, h.2⟩
theorem Ents.far {w W : World} {v : Value} {xs : List S43} {T b : Nat} {cs : Array Value} (h : Ents w W v xs) (hk : Blk T b cs W) (ht : 43 ≠ T) (o : Nat) (u : Value) : Ents w (W.setCell ⟨b, o, none⟩ u) v xs :=
  ⟨Kd.R_set h.1 hk (fun q hq => by
    have hq' : q ∈ [43] := hq
    rw [List.mem_singleton] at hq'
    rw [hq']; exact ht) o u, h.2⟩
def LR (w0 : World) (g : Nat) (row : Option Nat) (w w' : World) : Prop := (Cur w0 w g → Cur w0 w' g) ∧ KeepBut w w' g row
theorem LR.of (w0 : World) (g : Nat) (row : Option Nat) (a b : World) (h : LD w0 g a b) : LR w0 g row a b := ⟨h.1, h.2.1, fun i hi hg _ => h.2.2 i hi hg (by simp)⟩
theorem LR.trans (w0 : World) (g : Nat) (row : Option Nat) (a b c : World) (h : LR w0 g row a b) (k : LR w0 g row b c) : LR w0 g row a c := ⟨k.1 ∘ h.1, h.2.trans k.2 (.inl rfl)⟩
theorem LR.drew (w0 : World) (g : Nat) (row : Option Nat) (w : World) : LR w0 g row w w.drew := LR.of _ _ _ _ _ (LD.drew w0 g w)
theorem blk_keepR {T g b : Nat} {row : Option Nat} {cs : Array Value} {W W1 : World} (h : Blk T b cs W) (hk : KeepBut W W1 g row) (hne : b ≠ g) (hr : some b ≠ row) : Blk T b cs W1 := (hk.2 b h.lt hne hr).trans h
theorem Cur.grown {w0 W W1 : World} {g : Nat} {row : Option Nat} (h : Cur w0 W g) (hw : W.grownBy W1 row) (hne : some g ≠ row) (hrow : ∀ k, row = some k → w0.heap.size ≤ k) : Cur w0 W1 g := by
  obtain ⟨bs, i, s, h1, h2, h3, h4, h5⟩ := h
  refine ⟨bs, i, s, h1, h2, h3, h4.grown hw hne, ⟨hw.os.trans h5.os, hw.tape.trans h5.tape, hw.output.trans h5.output, Nat.le_trans h5.size hw.size, fun k hk => ?_⟩⟩
  exact (hw.block k (Nat.lt_of_lt_of_le hk h5.size) (fun e => by have := hrow k e.symm; omega)).trans (h5.block k hk)
theorem Dw.row {w0 w W W' : World} {g : Nat} {row : Option Nat} (h : Dw w0 w g W) (k : LR w0 g row W W') (hr : ∀ b, row = some b → w.heap.size ≤ b) : Dw w0 w g W' :=
  ⟨k.1 h.1, h.2.trans k.2 (by cases row with | none => exact .inl rfl | some b => exact .inr ⟨b, rfl, hr b rfl⟩)⟩
theorem Ents.lower {w w1 W : World} {v : Value} {xs : List S43} (h : Ents w1 W v xs) (hle : w.heap.size ≤ w1.heap.size) : Ents w W v xs :=
  ⟨Kd.R_mono (Kd.R_lower h.1 hle) (fun k hk => Nat.le_trans hle hk), h.2⟩
def Ints (w : World) (W : World) (v : Value) (cf : List Int) : Prop := Kd.R (Kd.int .i64) 3 W w.heap.size (fun k => w.heap.size ≤ k) v cf ∧ cf.length ≤ 6
theorem Ints.keep {w W W' : World} {v : Value} {xs : List Int} {g : Nat} (h : Ints w W v xs) (hk : KeepBut W W' g none) (hg : g < w.heap.size) : Ints w W' v xs :=
  ⟨Kd.R_keep h.1 hk (fun k hk => by omega), h.2⟩
theorem Ints.below {w W W' : World} {v : Value} {xs : List Int} (h : Ints w W v xs) (hb : Below W.heap.size W W') : Ints w W' v xs := ⟨Kd.R_below h.1 hb, h.2⟩
theorem Ints.far {w W : World} {v : Value} {xs : List Int} {T b : Nat} {cs : Array Value} (h : Ints w W v xs) (hk : Blk T b cs W) (ht : 3 ≠ T) (o : Nat) (u : Value) : Ints w (W.setCell ⟨b, o, none⟩ u) v xs :=
  ⟨Kd.R_set h.1 hk (fun q hq => by
    have hq' : q ∈ [3] := hq
    rw [List.mem_singleton] at hq'
    rw [hq']; exact ht) o u, h.2⟩
theorem Ints.lower {w w1 W : World} {v : Value} {xs : List Int} (h : Ints w1 W v xs) (hle : w.heap.size ≤ w1.heap.size) : Ints w W v xs :=
  ⟨Kd.R_mono (Kd.R_lower h.1 hle) (fun k hk => Nat.le_trans hle hk), h.2⟩
theorem Ints.nil (w W : World) : Ints w W (.slice none 0 0) [] := ⟨Kd.R_nil _ _ _ _ _, by simp⟩
theorem Ents.nil (w W : World) : Ents w W (.slice none 0 0) [] := ⟨Kd.R_nil _ _ _ _ _, by simp⟩
theorem Ints.of {w W W' : World} {v : Value} {xs : List Int} (h : Kd.R (Kd.int .i64) 3 W' W.heap.size (fun _ => True) v xs) (hl : xs.length ≤ 6) (hle : w.heap.size ≤ W.heap.size) : Ints w W' v xs :=
  ⟨Kd.R_mono (Kd.R_lower (Kd.R_bound h) hle) (fun k hk => Nat.le_trans hle hk.2.1), hl⟩
theorem Ints.row {w W W' : World} {g : Nat} {v u : Value} {xs : List Int} {es : List S43} (h : Ints w W v xs) (he : Ents w W u es) (hk : KeepBut W W' g u.ownBlock) (hg : g < w.heap.size) : Ints w W' v xs := by
  have h1 := Kd.R_apartR h.1 he.1 (fun q hq => by
    have hq' : q ∈ [3] := hq
    rw [List.mem_singleton] at hq'
    rw [hq']; decide)
  exact ⟨Kd.R_mono (Kd.R_step h1 (fun k h2 hlt => hk.2 k hlt (by have := h2.1; omega) h2.2)) (fun k h2 => h2.1), h.2⟩
end Go.Proofs.Ytmljihfaapoakaa.PFnMessages
end

section
namespace Go.Proofs.Ytmljihfaapoakaa.PFnMessages
open Go.RowKit Go.Proofs.YtmljihfaapoakaaW.PrintWords Go.Proofs.YtmljihfaapoakaaW.PrintLast Go.Proofs.YtmljihfaapoakaaW.PrintMore
set_option linter.unusedVariables false
set_option linter.unusedSimpArgs false
mutual
def spec_l01Text.j0 : Nat → Int → List Int → Int → Int → Option (ByteArray × Int × Int)
  | 0, _, _, _, _ => none
  | k + 1, x1, x1000, x1001, x1002 => spec_l01Text.l0 k x1 (([] : List Int)) 0 x1000 x1001 x1002
def spec_l01Text.l0 : Nat → Int → List Int → Int → List Int → Int → Int → Option (ByteArray × Int × Int)
  | 0, _, _, _, _, _, _ => none
  | k + 1, x1, x5, x6, x1000, x1001, x1002 => if x6 < x1 then ((spec_l01Byte.f x1000 x1001 x1002).bind fun bt120 => (if x5.length < 140737488355328 then (spec_l01Text.l0 k x1 (x5 ++ [(bt120.1) % 256]) (wrap64 (x6 + 1)) x1000 bt120.2.1 bt120.2.2) else (none))) else (some (strOfNums x5, x1001, x1002))
end
def spec_l01Text.f (k : Nat) (s0_0 : List Int) (s0_1 : Int) (s0_2 : Int) (a1 : Int) : Option (ByteArray × Int × Int) := if a1 > 5000 then (spec_l01Text.j0 k 5000 s0_0 s0_1 s0_2) else (spec_l01Text.j0 k a1 s0_0 s0_1 s0_2)
theorem spec_l01Text.mono_l : ∀ k, (∀ y0 y1 y2 y3, LeO (spec_l01Text.j0 k y0 y1 y2 y3) (spec_l01Text.j0 (k + 1) y0 y1 y2 y3)) ∧ (∀ y0 y1 y2 y3 y4 y5, LeO (spec_l01Text.l0 k y0 y1 y2 y3 y4 y5) (spec_l01Text.l0 (k + 1) y0 y1 y2 y3 y4 y5))
  | 0 => ⟨fun _ _ _ _ r h => by simp [spec_l01Text.j0] at h, fun _ _ _ _ _ _ r h => by simp [spec_l01Text.l0] at h⟩
  | k + 1 => by
    obtain ⟨ih0, ih1⟩ := spec_l01Text.mono_l k
    refine ⟨?_, ?_⟩
    · intro y0 y1 y2 y3
      unfold spec_l01Text.j0
      repeat' first
      | (with_reducible exact ih0 _ _ _ _)
      | (with_reducible exact ih1 _ _ _ _ _ _)
      | (with_reducible exact LeO.refl _)
      | (with_reducible exact LeO.none _)
      | (with_reducible refine LeO.ite ?_ ?_)
      | (with_reducible refine LeO.bind ?_ (fun _ => ?_))
      | exact ih0 _ _ _ _
      | exact ih1 _ _ _ _ _ _
      | exact LeO.none _
      | refine LeO.ite ?_ ?_
      | refine LeO.bind ?_ (fun _ => ?_)
    · intro y0 y1 y2 y3 y4 y5
      unfold spec_l01Text.l0
      repeat' first
      | (with_reducible exact ih0 _ _ _ _)
      | (with_reducible exact ih1 _ _ _ _ _ _)
      | (with_reducible exact LeO.refl _)
      | (with_reducible exact LeO.none _)
      | (with_reducible refine LeO.ite ?_ ?_)
      | (with_reducible refine LeO.bind ?_ (fun _ => ?_))
      | exact ih0 _ _ _ _
      | exact ih1 _ _ _ _ _ _
      | exact LeO.none _
      | refine LeO.ite ?_ ?_
      | refine LeO.bind ?_ (fun _ => ?_)
theorem spec_l01Text.mono : ∀ a0 a1 a2 a3 k, LeO (spec_l01Text.f k a0 a1 a2 a3) (spec_l01Text.f (k + 1) a0 a1 a2 a3) := by
  intro a0 a1 a2 a3 k
  obtain ⟨ih0, ih1⟩ := spec_l01Text.mono_l k
  unfold spec_l01Text.f
  repeat' first
      | (with_reducible exact ih0 _ _ _ _)
      | (with_reducible exact ih1 _ _ _ _ _ _)
      | (with_reducible exact LeO.refl _)
      | (with_reducible exact LeO.none _)
      | (with_reducible refine LeO.ite ?_ ?_)
      | (with_reducible refine LeO.bind ?_ (fun _ => ?_))
      | exact ih0 _ _ _ _
      | exact ih1 _ _ _ _ _ _
      | exact LeO.none _
      | refine LeO.ite ?_ ?_
      | refine LeO.bind ?_ (fun _ => ?_)
set_option maxHeartbeats 8000000 in
set_option maxRecDepth 100000 in
theorem spec_l01Text.calls (k : Nat) (g : Nat) (s0_0 : List Int) (s0_1 : Int) (s0_2 : Int) (a1 : Int) (r1 : ByteArray) (r2 : Int) (r3 : Int) (w0 w : World) (hI : IsS75 w0 w g s0_0 s0_1 s0_2) (hB : Below w0.heap.size w0 w) (h : spec_l01Text.f k s0_0 s0_1 s0_2 a1 = some (r1, r2, r3)) :
    Calls Try.prog 59 #[.pointer (some ⟨g, 0, none⟩), .int .i64 a1] w fun e w' => e = .returned (.string r1) ∧ IsS75 w0 w' g s0_0 r2 r3 ∧ Below w0.heap.size w0 w' ∧ KeepBut w w' g none := by
  have HI0 := Aside0.mk hI
  have HK := Aside0.mk (KeepBut.refl w g none)
  have HL := Aside0.mk hB.size
  clear hI
  have HW0 := Aside0.mk hB.size
  have HB := Aside0.mk hB
  clear hB
  have H : (if a1 > 5000 then (spec_l01Text.j0 k 5000 s0_0 s0_1 s0_2) else (spec_l01Text.j0 k a1 s0_0 s0_1 s0_2)) = some (r1, r2, r3) := h
  clear h
  have HC3 := Aside0.mk H
  clear H
  go_enter Try.func59, Try.ntmps59
  go_upto_if 8 with (fail)
  go_cut [1] (fun v1 wc => ∃ (kq : Nat) (x1_2 : Int), v1 = .int .i64 x1_2 ∧ Aside0 (spec_l01Text.j0 kq x1_2 s0_0 s0_1 s0_2 = some (r1, r2, r3)) ∧ Aside0 (kq ≤ k) ∧ Aside0 (IsS75 w0 wc g s0_0 s0_1 s0_2) ∧ Aside0 (KeepBut w wc g none) ∧ Aside0 (Below w0.heap.size w0 wc))
  case first =>
    have H := HC3.out
    clear HC3
    by_cases c4 : a1 > 5000
    · rw [if_pos c4] at H
      have c4b0 : decide (5000 < a1) = true := decide_eq_true c4
      clear c4
      (first | rw [c4b0] | (simp only [i64_w, i32_w]; rw [c4b0]) | skip)
      have H' := Aside0.mk H
      clear H
      go_wp2
      go_meet
      case rel => exact ⟨_, (5000), (by first | rfl | (simp; done) | (simp [*]; done)), H', ⟨by first | omega | exact Nat.le_refl _⟩, ⟨by repeat (first | (with_reducible first | exact HI0.out | apply IsS75.alloc | apply IsS75.drewN | apply IsS75.drew | apply IsS75.set_1 | apply IsS75.set_2) | exact HI0.out)⟩, ⟨by repeat (first | (with_reducible first | exact HK.out | apply KeepBut.set_ | apply keep_drewN | apply keep_drew | apply keep_alloc) | exact HK.out)⟩, ⟨by repeat (first | (with_reducible first | exact HB.out | apply below_alloc | apply pw_below_drewN | apply below_drew1 | refine below_set ?_ (IsS75.ge HI0.out)) | exact HB.out)⟩⟩
    · rw [if_neg c4] at H
      have c4b0 : decide (5000 < a1) = false := decide_eq_false c4
      clear c4
      (first | rw [c4b0] | (simp only [i64_w, i32_w]; rw [c4b0]) | skip)
      have H' := Aside0.mk H
      clear H
      go_wp2
      go_meet
      case rel => exact ⟨_, (a1), (by first | rfl | (simp; done) | (simp [*]; done)), H', ⟨by first | omega | exact Nat.le_refl _⟩, ⟨by repeat (first | (with_reducible first | exact HI0.out | apply IsS75.alloc | apply IsS75.drewN | apply IsS75.drew | apply IsS75.set_1 | apply IsS75.set_2) | exact HI0.out)⟩, ⟨by repeat (first | (with_reducible first | exact HK.out | apply KeepBut.set_ | apply keep_drewN | apply keep_drew | apply keep_alloc) | exact HK.out)⟩, ⟨by repeat (first | (with_reducible first | exact HB.out | apply below_alloc | apply pw_below_drewN | apply below_drew1 | refine below_set ?_ (IsS75.ge HI0.out)) | exact HB.out)⟩⟩
  case rest =>
    clear HC3
    try clear p2
    try clear c4
    try clear c4b0
    obtain ⟨kq, x1_2, rfl, HA, HJ2, HI0, HK, HB⟩ := hcut
    cases kq with
    | zero => exact absurd HA.out (by simp [spec_l01Text.j0])
    | succ kj2 =>
      have H := HA.out
      clear HA
      simp only [spec_l01Text.j0] at H
      obtain ⟨y117, hy117⟩ : ∃ y_ : List Int, y_ = (([] : List Int)) := ⟨_, rfl⟩
      replace H : (spec_l01Text.l0 kj2 x1_2 y117 0 s0_0 s0_1 s0_2) = some (r1, r2, r3) := by first | (rw [hy117]; with_reducible exact H) | (have H2_ := (Option.bind_some _ _).symm.trans H; rw [hy117]; with_reducible exact H2_) | (have H2_ := (Option.bind_some _ _).symm.trans H; with_reducible exact H2_) | with_reducible exact H | (rw [hy117]; exact H) | exact H
      have Ny117 := Aside0.mk hy117
      clear hy117
      have H' := Aside0.mk H
      clear H
      go_wp2_with (first | ((with_reducible refine gate_dst (N := 9) rfl ?_); refine Kd.R_lit (Kd.int .u8) _ 5 ?hg (N := 9) ?hd (xs := ([] : List Int)) (inner := []) (ok := fun _ => True) (okp := fun _ => True) ?hr ?hp (fun _ hk => hk) trivial (Below.refl _ _) (Nat.le_refl _) (by simp) ?_; (case hd => rfl); (case hg => rfl); (case hr => first | (go_simp; done) | (go_simp; rfl)); (case hp => exact (Reps.none _ _)); intro v118 w5 ho6 hb hg_ hnew_; clear hg_ hnew_; (first | rw [← Ny117.out] at ho6 | (simp only [Int.reduceToNat] at ho6; rw [← Ny117.out] at ho6)); have n0_ := Aside0.mk (Kd.R_lower ho6 (keep_size (w := w) (g := g) (row := none) (by repeat (first | (with_reducible first | exact HK.out | apply KeepBut.set_ | apply keep_drewN | apply keep_drew | apply keep_alloc) | exact HK.out)))); have n1_ := Aside0.mk (IsS75.below (by repeat (first | (with_reducible first | exact HI0.out | apply IsS75.alloc | apply IsS75.drewN | apply IsS75.drew | apply IsS75.set_1 | apply IsS75.set_2) | exact HI0.out)) hb); have n2_ := Aside0.mk (KeepBut.trans (by repeat (first | (with_reducible first | exact HK.out | apply KeepBut.set_ | apply keep_drewN | apply keep_drew | apply keep_alloc) | exact HK.out)) (KeepBut.of_below hb g none) (.inl rfl)); have n3_ := Aside0.mk (below_step (by repeat (first | (with_reducible first | exact HB.out | apply below_alloc | apply pw_below_drewN | apply below_drew1 | refine below_set ?_ (IsS75.ge HI0.out)) | exact HB.out)) hb); clear HI0; clear HK; clear HB; have HO119 := n0_; have HI0 := n1_; have HK := n2_; have HB := n3_; clear n0_ n1_ n2_ n3_; clear hb ho6))
      go_loopg [5, 6] kj2 (fun kq v5 v6 w' => ∃ (x5_2 : List Int) (x6_2 : Int) (x1001_2 : Int) (x1002_2 : Int), v6 = .int .i64 x6_2 ∧ Aside0 (spec_l01Text.l0 kq x1_2 x5_2 x6_2 s0_0 x1001_2 x1002_2 = some (r1, r2, r3)) ∧ Aside0 (kq ≤ kj2) ∧ Aside0 (Kd.R (Kd.int .u8) 5 w' w.heap.size (fun _ => True) v5 x5_2) ∧ Aside0 (IsS75 w0 w' g s0_0 x1001_2 x1002_2) ∧ Aside0 (KeepBut w w' g none) ∧ Aside0 (Below w0.heap.size w0 w'))
      case atStart => exact ⟨(y117), (0), (s0_1), (s0_2), (by first | rfl | (simp; done) | (simp [*]; done)), H', ⟨Nat.le_refl _⟩, ⟨by (with_reducible repeat (first | apply Kd.R_alloc | apply Kd.R_drewN | apply Kd.R_drew)); exact HO119.out⟩, ⟨by repeat (first | (with_reducible first | exact HI0.out | apply IsS75.alloc | apply IsS75.drewN | apply IsS75.drew | apply IsS75.set_1 | apply IsS75.set_2) | exact HI0.out)⟩, ⟨by repeat (first | (with_reducible first | exact HK.out | apply KeepBut.set_ | apply keep_drewN | apply keep_drew | apply keep_alloc) | exact HK.out)⟩, ⟨by repeat (first | (with_reducible first | exact HB.out | apply below_alloc | apply pw_below_drewN | apply below_drew1 | refine below_set ?_ (IsS75.ge HI0.out)) | exact HB.out)⟩⟩
      case round =>
        clear H'
        try clear p2
        try clear c4
        try clear c4b0
        try clear c5
        try clear p2
        obtain ⟨x5_2, x6_2, x1001_2, x1002_2, rfl, HA, HK2, HO_5, HI0, HK, HB⟩ := hrel
        cases gk with
        | zero => exact absurd HA.out (by simp [spec_l01Text.l0])
        | succ k2 =>
          have H := HA.out
          clear HA
          simp only [spec_l01Text.l0] at H
          by_cases c7 : x6_2 < x1_2
          · rw [if_pos c7] at H
            have c7b0 : decide (x6_2 < x1_2) = true := decide_eq_true c7
            clear c7
            replace H := Option.bind_eq_some_iff.mp H
            obtain ⟨⟨t120, t121, t122⟩, A80, H⟩ := H
            replace H : (if x5_2.length < 140737488355328 then (spec_l01Text.l0 k2 x1_2 (x5_2 ++ [(t120) % 256]) (wrap64 (x6_2 + 1)) s0_0 t121 t122) else (none)) = some (r1, r2, r3) := H
            have A8 := Aside0.mk A80
            clear A80
            by_cases c9 : x5_2.length < 140737488355328
            · rw [if_pos c9] at H
              have LMc9 := Aside0.mk c9
              clear c9
              obtain ⟨y123, hy123⟩ : ∃ y_ : List Int, y_ = (x5_2 ++ [(t120) % 256]) := ⟨_, rfl⟩
              replace H : (spec_l01Text.l0 k2 x1_2 y123 (wrap64 (x6_2 + 1)) s0_0 t121 t122) = some (r1, r2, r3) := by first | (rw [hy123]; with_reducible exact H) | (have H2_ := (Option.bind_some _ _).symm.trans H; rw [hy123]; with_reducible exact H2_) | (have H2_ := (Option.bind_some _ _).symm.trans H; with_reducible exact H2_) | with_reducible exact H | (rw [hy123]; exact H) | exact H
              have Ny123 := Aside0.mk hy123
              clear hy123
              have H' := Aside0.mk H
              clear H
              go_wp2_with (first | ((with_reducible refine gate_callee (f := 64) rfl ?_); refine goesL_ (some 17) rfl rfl Try.func64 (by kernel_rfl) rfl #[.pointer (some ⟨g, 0, none⟩)] rfl (by (try simp only [List.map_toArray, List.map_cons, List.map_nil]); first | done | rfl | (simp only [List.length_drop, List.length_take]; rfl)) ?_; (with_reducible refine (spec_l01Byte.calls g s0_0 x1001_2 x1002_2 t120 t121 t122 w0 _ ?side1 ?side2 A8.out).mono ?_); (case side1 => repeat (first | (with_reducible first | exact HI0.out | apply IsS75.alloc | apply IsS75.drewN | apply IsS75.drew | apply IsS75.set_1 | apply IsS75.set_2) | exact HI0.out)); (case side2 => repeat (first | (with_reducible first | exact HB.out | apply below_alloc | apply pw_below_drewN | apply below_drew1 | refine below_set ?_ (IsS75.ge HI0.out)) | exact HB.out)); rintro e w10 ⟨rfl, hi, hb, hk⟩; refine ⟨_, rfl, ?_⟩; have n0_ := Aside0.mk (Kd.R_mono (Kd.R_keep (IsS75.apart (show IsS75 w0 _ g s0_0 x1001_2 x1002_2 from by repeat (first | (with_reducible first | exact HI0.out | apply IsS75.alloc | apply IsS75.drewN | apply IsS75.drew | apply IsS75.set_1 | apply IsS75.set_2) | exact HI0.out)) (by (with_reducible repeat (first | apply Kd.R_alloc | apply Kd.R_drewN | apply Kd.R_drew)); exact HO_5.out) (by decide)) hk (fun _ h => h.2)) (fun _ h => h.1)); have n1_ := Aside0.mk (KeepBut.trans (by repeat (first | (with_reducible first | exact HK.out | apply KeepBut.set_ | apply keep_drewN | apply keep_drew | apply keep_alloc) | exact HK.out)) hk (.inl rfl)); have n2_ := Aside0.mk (hb); have n3_ := Aside0.mk (hi); clear HO_5; clear HK; clear HB; clear HI0; have HO_5 := n0_; have HK := n1_; have HB := n2_; have HI0 := n3_; clear n0_ n1_ n2_ n3_; (try clear hb); (try clear hb2); (try clear hk); (try clear hi)) | ((with_reducible refine gate_builtin (b := .append) (xs := #[.tmp 15, .tmp 19]) rfl ?_); at_builtin; refine Kd.R_append (Kd.int .u8) w.heap.size rfl (.tmp 15) (.tmp 19) 22 5 (.int .u8 0) 1 rfl Try.underlying22 info5 rfl (by decide) (by omega) u5 x5_2 ((t120) % 256) [.int .u8 ((t120) % 256)] (fun _ => True) (fun _ => False) rfl rfl ?aP (fun _ hk => hk.elim) ?aF ?aO (Below.refl _ _) ?aS ?aL ?_; (case aP => exact rfl); (case aF => exact (fun _ _ => trivial)); (case aO => exact (by (with_reducible repeat (first | apply Kd.R_alloc | apply Kd.R_drewN | apply Kd.R_drew)); exact HO_5.out)); (case aS => exact (keep_size (w := w) (g := g) (row := none) (by repeat (first | (with_reducible first | exact HK.out | apply KeepBut.set_ | apply keep_drewN | apply keep_drew | apply keep_alloc) | exact HK.out)))); (case aL => have := LMc9.out; omega); intro v124 w11 ho hb hg hat; rw [← Ny123.out] at ho; have n0_ := Aside0.mk (IsS75.grown (by repeat (first | (with_reducible first | exact HI0.out | apply IsS75.alloc | apply IsS75.drewN | apply IsS75.drew | apply IsS75.set_1 | apply IsS75.set_2) | exact HI0.out)) hg (IsS75.own_ne HI0.out HO_5.out (by decide))); have n1_ := Aside0.mk (below_weaken (by repeat (first | (with_reducible first | exact HB.out | apply below_alloc | apply pw_below_drewN | apply below_drew1 | refine below_set ?_ (IsS75.ge HI0.out)) | exact HB.out)) HL.out hb); have n2_ := Aside0.mk (KeepBut.trans (by repeat (first | (with_reducible first | exact HK.out | apply KeepBut.set_ | apply keep_drewN | apply keep_drew | apply keep_alloc) | exact HK.out)) (KeepBut.of_grown hg g) (Kd.R_base2 HO_5.out)); have n3_ := Aside0.mk (ho); clear HI0; clear HB; clear HK; clear HO_5; have HI0 := n0_; have HB := n1_; have HK := n2_; have HO125 := n3_; clear n0_ n1_ n2_ n3_; clear ho hb hg hat))
              go_roundg k2
              case measure => have := HJ2.out; have := HK2.out; omega
              case rel => exact ⟨(y123), (wrap64 (x6_2 + 1)), (t121), (t122), (by first | rfl | (simp; done) | (simp [*]; done)), H', ⟨by have := HJ2.out; have := HK2.out; omega⟩, ⟨by (with_reducible repeat (first | apply Kd.R_alloc | apply Kd.R_drewN | apply Kd.R_drew)); exact HO125.out⟩, ⟨by repeat (first | (with_reducible first | exact HI0.out | apply IsS75.alloc | apply IsS75.drewN | apply IsS75.drew | apply IsS75.set_1 | apply IsS75.set_2) | exact HI0.out)⟩, ⟨by repeat (first | (with_reducible first | exact HK.out | apply KeepBut.set_ | apply keep_drewN | apply keep_drew | apply keep_alloc) | exact HK.out)⟩, ⟨by repeat (first | (with_reducible first | exact HB.out | apply below_alloc | apply pw_below_drewN | apply below_drew1 | refine below_set ?_ (IsS75.ge HI0.out)) | exact HB.out)⟩⟩
            · rw [if_neg c9] at H
              exact absurd H (by simp)
          · rw [if_neg c7] at H
            have c7b0 : decide (x6_2 < x1_2) = false := decide_eq_false c7
            clear c7
            simp only [Option.some.injEq, Prod.mk.injEq] at H
            obtain ⟨rfl, rfl, rfl⟩ := H
            have hcv12 := own_string (P := Try.prog) Try.underlying22 Try.underlying5 Try.underlying9 (Kd.own_of_R HO_5.out)
            go_wp2
            go_ret
            exact ⟨by first | rfl | (simp [errW_none, errW_some] <;> rfl) | (simp [*, errW_none, errW_some] <;> rfl), by repeat (first | (with_reducible first | exact HI0.out | apply IsS75.alloc | apply IsS75.drewN | apply IsS75.drew | apply IsS75.set_1 | apply IsS75.set_2) | exact HI0.out), by repeat (first | (with_reducible first | exact HB.out | apply below_alloc | apply pw_below_drewN | apply below_drew1 | refine below_set ?_ (IsS75.ge HI0.out)) | exact HB.out), by repeat (first | (with_reducible first | exact HK.out | apply KeepBut.set_ | apply keep_drewN | apply keep_drew | apply keep_alloc) | exact HK.out)⟩
end Go.Proofs.Ytmljihfaapoakaa.PFnMessages
end
