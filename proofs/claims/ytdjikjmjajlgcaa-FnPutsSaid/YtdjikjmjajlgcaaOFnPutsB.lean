import Derived.Test.YtdjikjmjajlgcaaOFnPutsA
import Derived.Test.YtdjikjmjajlgcaaPFnPutsA
import Derived.Deep.Cut
import Derived.Laws.BitsLemmas
import Derived.Test.YtdjikjmjajlgcaaWEqStruct
import Derived.Deep.RegionHeld3
import Derived.Test.YtdjikjmjajlgcaaWWords

/-! ### YtdjikjmjajlgcaaFlowW -/
section
namespace Go.Proofs.Ytdjikjmjajlgcaa
open Go.RowKit
set_option linter.unusedVariables false
set_option linter.unusedSimpArgs false

/-! The flow rule where a tmp that is read from before may be written by an operation that waits for all others. (own) -/
section
variable {P : Program}
def lastW (l : List Oper) (t : Nat) : Bool := (List.range l.length).all fun j => match l[j]? with
  | some o => o.dst != some t || (List.range l.length).all fun i => i == j || o.after.toList.any fun e => e.on == i && Region.binds .any e
  | none => true
theorem lastW_spec {l : List Oper} {t : Nat} (h : lastW l t = true) (j : Nat) (o : Oper) (hj : l[j]? = some o) (hd : o.dst = some t) (i : Nat) (hi : i < l.length) (hij : i ≠ j) : ∃ e ∈ o.after.toList, e.on = i ∧ Region.binds .any e = true := by
  have hjl : j < l.length := (List.getElem?_eq_some_iff.1 hj).1
  have h1 := List.all_eq_true.1 h j (List.mem_range.2 hjl)
  rw [hj] at h1
  simp only [hd, bne_self_eq_false, Bool.false_or] at h1
  have h2 := List.all_eq_true.1 h1 i (List.mem_range.2 hi)
  simp only [Bool.or_eq_true, beq_iff_eq, hij, false_or, List.any_eq_true, Bool.and_eq_true] at h2
  obtain ⟨e, he, h3, h4⟩ := h2
  exact ⟨e, he, h3, h4⟩
theorem getD_ft {l : Array Bool} {i : Nat} (h : i < l.size) : l.getD i false = l.getD i true := by simp [Array.getD_eq_getD_getElem?, h]
theorem getD_set_self {l : Array Bool} {i : Nat} (h : i < l.size) : (l.setIfInBounds i true).getD i false = true := by simp [Array.getD_eq_getD_getElem?, h]
theorem getD_set_mono {l : Array Bool} {i j : Nat} (h : l.getD j false = true) : (l.setIfInBounds i true).getD j false = true := by
  by_cases hij : i = j
  · subst hij
    refine getD_set_self ?_
    rcases Nat.lt_or_ge i l.size with h1 | h1
    · exact h1
    · simp [Array.getD_eq_getD_getElem?, Array.getElem?_eq_none h1] at h
  · rw [getD_set_ne false hij]; exact h

theorem wp_region_flowW {id : Nat} {Q : Exit → Act → World → Prop} {a : Act} {w : World} {l : List Oper} (bs : List Nat) (n : Nat) (hm : P.follows .mixedOrders = true) (hn : a.tmps.size = n)
    (hB : flowB n l = true) (hO : flowO l 0 = true) (hbs : bs.all (lastW l) = true) (h : Flow P w a bs Q l l 0 []) : (Code.region id l.toArray true).wp P Q a w := by
  obtain ⟨T, -, -, hlen, hobl, hfin⟩ := flow_table l 0 [] (by simp) h
  subst hn
  refine wp_region_any hm ?_
  refine wpAny_inv (fun listed A w' => listed.size = l.length ∧ Below w.heap.size w w' ∧ A.defers = a.defers ∧ A.tmps.size = a.tmps.size ∧ (∀ t, a.tmps[t]? ≠ A.tmps[t]? → ∃ (i : Nat) (o : Oper), l[i]? = some o ∧ o.dst = some t ∧ listed.getD i false = true) ∧
      (∀ (j : Nat) (o : Oper), l[j]? = some o → listed.getD j false = true → ∀ e ∈ o.after.toList, Region.binds .any e = true → listed.getD e.on false = true) ∧
      (∀ i d R, (i, d, R) ∈ T → listed.getD i false = true → R w' (A.eval (.tmp d)))) ?_ ?_ (fun listed => unl listed.toList) ?_ _ _ _ _ ?_ ?_
  · rintro listed A w' i ⟨hsz, hbel, hdef, hts, hdiff, hcl, hall⟩ hi
    obtain ⟨hun, o, ho, haft⟩ := mem_ready.1 hi
    have ho' : l[i]? = some o := by simpa using ho
    obtain ⟨hg, hd⟩ := flowB_spec hB i o ho'
    obtain ⟨R, hmono, huniq, hob⟩ := hobl i o ho'
    simp only [Nat.zero_add] at huniq
    unfold wpOp
    rw [ho]
    simp only [Region.wanted, hg, if_true]
    refine .inl (flow_upon (hob A w' hbel (baseF_of fun t ht => ?_) fun e he hb d R hmem => hall _ d R hmem (haft e (by simpa using he) hb)) fun v w2 hb2 hR => ?_)
    · have h1 := List.all_eq_true.1 hbs t ht
      have h3 : a.tmps[t]? = A.tmps[t]? := Classical.byContradiction fun hne => by
        obtain ⟨j, oj, hj, hdj, hlj⟩ := hdiff t hne
        have hil : i < l.length := (List.getElem?_eq_some_iff.1 ho').1
        have hij : i ≠ j := fun e => by
          subst e
          rw [getD_ft (by omega)] at hlj
          simp [hun] at hlj
        obtain ⟨e, he, heo, heb⟩ := lastW_spec h1 j oj hj hdj i hil hij
        have := hcl j oj hj hlj e he heb
        rw [heo, getD_ft (by omega)] at this
        simp [hun] at this
      simp only [Act.eval, Array.getD_eq_getD_getElem?, h3]
    · refine ⟨by simpa using hsz, hbel.trans ⟨hb2.os, hb2.tape, hb2.output, hb2.size, fun k hk => hb2.block k (Nat.lt_of_lt_of_le hk hbel.size)⟩, ?_, ?_, ?_, ?_, ?_⟩
      · rw [← hdef]; unfold Act.put; split <;> rfl
      · rw [← hts]; unfold Act.put; split <;> simp
      · intro t ht
        by_cases hdt : o.dst = some t
        · exact ⟨i, o, ho', hdt, getD_set_self (by have := (List.getElem?_eq_some_iff.1 ho').1; omega)⟩
        · refine (hdiff t fun he => ht ?_).imp fun j => Exists.imp fun oj h => ⟨h.1, h.2.1, getD_set_mono h.2.2⟩
          rw [he]
          unfold Act.put
          split
          · rename_i t' ht'
            have : t' ≠ t := fun e => hdt (by rw [ht', e])
            rw [Array.getElem?_setIfInBounds_ne this]
          · rfl
      · intro j oj hj hlj e he hb
        by_cases hij : i = j
        · subst hij
          obtain rfl : o = oj := by rw [ho'] at hj; exact Option.some.inj hj
          exact getD_set_mono (haft e (by simpa using he) hb)
        · rw [getD_set_ne false hij] at hlj
          exact getD_set_mono (hcl j oj hj hlj e he hb)
      · intro k d R' hmem hk
        by_cases hki : i = k
        · subst hki
          obtain ⟨hod, rfl⟩ := huniq d R' hmem
          rw [eval_put_eq hod (by rw [hts]; exact (hd d hod).1)]
          exact hR
        · have hk' : listed.getD k false = true := by rw [getD_set_ne false hki] at hk; exact hk
          have hold := hall k d R' hmem hk'
          have hkl : k < l.length := by simpa using hlen k d R' hmem
          have hko : l[k]? = some l[k] := by simp [hkl]
          obtain ⟨R2, hmono2, huniq2, -⟩ := hobl k l[k] hko
          simp only [Nat.zero_add] at huniq2
          obtain ⟨hod, rfl⟩ := huniq2 d R' hmem
          have hne : o.dst ≠ some d := fun hd0 => by
            rcases Nat.lt_or_gt_of_ne hki with h | h
            · exact (hd d hd0).2 k l[k] hko h hod
            · exact ((flowB_spec hB k l[k] hko).2 d hod).2 i o ho' h hd0
          rw [eval_put_ne hne]
          exact hmono2 _ _ _ hold hb2
  · rintro listed A w' ⟨hsz, hbel, hdef, hts, hdiff, hcl, hall⟩ hno
    have hdone : ∀ k, k < l.length → listed.getD k false = true := by
      intro k
      induction k using Nat.strongRecOn with
      | _ k ih =>
        intro hk
        refine Classical.byContradiction fun hf => hno k (mem_ready.2 ⟨?_, l[k], by simp [hk], fun e he hb => ?_⟩)
        · have hks : k < listed.size := by omega
          simp only [Array.getD_eq_getD_getElem?, Array.getElem?_eq_getElem hks, Option.getD_some] at hf ⊢
          simpa using hf
        · have hlt := flowO_spec hO k l[k] (by simp [hk]) e (by simpa using he) hb
          exact ih e.on (by omega) (by omega)
    have hx : frameOf (fun i => match (l[i]?).bind (·.dst) with | some d => A.eval (.tmp d) | none => undef) l 0 a = A := by
      refine frame_eq _ A l 0 a hdef hts (fun i o d hi hd hlt => ?_) (fun t ht => (hdiff t ht).imp fun j => Exists.imp fun oj h => ⟨h.1, h.2.1⟩)
      simp only [Nat.zero_add, hi, Option.bind_some, hd, Act.eval, Array.getD_eq_getD_getElem?]
      have : d < A.tmps.size := by rw [hts]; exact hlt
      simp [this]
    have := hfin (fun i => match (l[i]?).bind (·.dst) with | some d => A.eval (.tmp d) | none => undef) w' hbel (allT_of fun k d R hmem => by
      have hkl : k < l.length := by simpa using hlen k d R hmem
      have hko : l[k]? = some l[k] := by simp [hkl]
      obtain ⟨R2, -, huniq2, -⟩ := hobl k l[k] hko
      simp only [Nat.zero_add] at huniq2
      obtain ⟨hod, -⟩ := huniq2 d R hmem
      simp only [hko, Option.bind_some, hod]
      exact hall k d R hmem (hdone k hkl))
    rw [hx] at this
    exact this
  · rintro listed A w' i ⟨hsz, -⟩ hi
    obtain ⟨hun, o, ho, -⟩ := mem_ready.1 hi
    have hil : i < listed.size := by have := (Array.getElem?_eq_some_iff.1 ho).1; simp at this; omega
    simp only [Array.toList_setIfInBounds]
    refine unl_set _ _ ?_
    simp only [Array.getD_eq_getD_getElem?, Array.getElem?_eq_getElem hil, Option.getD_some] at hun
    simp [hil, hun]
  · simp [unl_rep]
  · exact ⟨by simp, ⟨rfl, rfl, rfl, Nat.le_refl _, fun _ _ => rfl⟩, rfl, rfl, fun t ht => absurd rfl ht, fun j o _ hl => by simp [Array.getD_eq_getD_getElem?, Array.getElem?_replicate] at hl; split at hl <;> simp at hl, fun i d R _ hl => by simp [Array.getD_eq_getD_getElem?, Array.getElem?_replicate] at hl; split at hl <;> simp at hl⟩

end
end Go.Proofs.Ytdjikjmjajlgcaa
end

/-! ### YtdjikjmjajlgcaaFlowL -/
section
namespace Go.Proofs.Ytdjikjmjajlgcaa
open Go.RowKit
set_option linter.unusedVariables false
set_option linter.unusedSimpArgs false

/-! The flow rule over any relation of worlds that a call keeps (a cursor that moves, say); the last operation, which waits for all others, may do anything. (own) -/
section
variable {P : Program} {L : World → World → Prop}
def VMonoL (L : World → World → Prop) (R : VPred) : Prop := ∀ w w' v, R w v → L w w' → R w' v
def flowUponL (P : Program) (L : World → World → Prop) (R : VPred) (w : World) : Result Next → Prop
  | .ok (.value u) w' => L w w' ∧ R w' u
  | .ok .skip w' => L w w' ∧ R w' undef
  | .ok (.enter f args) w' => Calls P f args w' (fun e w'' => ∃ v, e = .returned v ∧ L w w'' ∧ R w'' v)
  | _ => False
def lastUpon (P : Program) (Q : Act → World → Prop) (o : Oper) (A : Act) : Result Next → Prop
  | .ok (.value u) w' => Q (A.put o.dst u) w'
  | .ok .skip w' => Q (A.put o.dst undef) w'
  | .ok (.enter f args) w' => Calls P f args w' (fun e w'' => ∃ v, e = .returned v ∧ Q (A.put o.dst v) w'')
  | _ => False
structure LastUpon (P : Program) (Q : Act → World → Prop) (o : Oper) (A : Act) (r : Result Next) : Prop where
  out : lastUpon P Q o A r
def FlowL (P : Program) (L : World → World → Prop) (w : World) (a : Act) (bs : List Nat) (Q : Exit → Act → World → Prop) (l0 : List Oper) : List Oper → Nat → FTab → Prop
  | [], _, T => False
  | [o], i, T => ∀ x w', L w w' → allT x w' T → LastUpon P (Q .normal) o (frameOf x l0.dropLast 0 a) ((execOp (frameOf x l0.dropLast 0 a).eval o).run P w')
  | o :: o2 :: rest, i, T => ∃ R : VPred, VMonoL L R ∧
      (∀ A w', L w w' → baseF A a bs → deps T A w' o.after.toList → flowUponL P L R w' ((execOp A.eval o).run P w')) ∧ FlowL P L w a bs Q l0 (o2 :: rest) (i + 1) (addT o i R T)

theorem flow_tableL {w : World} {a : Act} {bs : List Nat} {Q : Exit → Act → World → Prop} {l0 : List Oper} : ∀ (rest : List Oper) (i : Nat) (T : FTab), (∀ k d R, (k, d, R) ∈ T → k < i) → FlowL P L w a bs Q l0 rest i T →
    ∃ (T' : FTab) (last : Oper), rest[rest.length - 1]? = some last ∧ 0 < rest.length ∧ (∀ x ∈ T, x ∈ T') ∧ (∀ k d R, (k, d, R) ∈ T' → k < i → (k, d, R) ∈ T) ∧ (∀ k d R, (k, d, R) ∈ T' → k + 1 < i + rest.length) ∧
      (∀ (j : Nat) (o : Oper), rest[j]? = some o → j + 1 < rest.length → ∃ R, VMonoL L R ∧ (∀ d' R', (i + j, d', R') ∈ T' → o.dst = some d' ∧ R' = R) ∧
        (∀ A w', L w w' → baseF A a bs → (∀ e ∈ o.after.toList, Region.binds .any e = true → ∀ d R, (e.on, d, R) ∈ T' → R w' (A.eval (.tmp d))) → flowUponL P L R w' ((execOp A.eval o).run P w'))) ∧
      (∀ x w', L w w' → allT x w' T' → LastUpon P (Q .normal) last (frameOf x l0.dropLast 0 a) ((execOp (frameOf x l0.dropLast 0 a).eval last).run P w'))
  | [], i, T, hT, h => h.elim
  | [o], i, T, hT, h => ⟨T, o, rfl, by simp, fun _ h => h, fun _ _ _ h _ => h, fun k d R hm => by have := hT k d R hm; simp only [List.length_singleton]; omega, fun j o' hj hl => by simp at hl, h⟩
  | o :: o2 :: rest, i, T, hT, h => by
    obtain ⟨R, hmono, hobl, hrest⟩ := h
    have hT1 : ∀ k d R', (k, d, R') ∈ addT o i R T → k < i + 1 := fun k d R' hm => by
      unfold addT at hm
      split at hm
      · rcases List.mem_cons.1 hm with hm | hm
        · simp only [Prod.mk.injEq] at hm; omega
        · have := hT k d R' hm; omega
      · have := hT k d R' hm; omega
    have hsub : ∀ y ∈ T, y ∈ addT o i R T := fun y hy => by
      unfold addT
      split
      · exact .tail _ hy
      · exact hy
    obtain ⟨T', last, h0, hpos, h1, h2, h3, h4, h5⟩ := flow_tableL (o2 :: rest) (i + 1) (addT o i R T) hT1 hrest
    refine ⟨T', last, by simpa using h0, by simp, fun y hy => h1 y (hsub y hy), fun k d R' hm hk => ?_, fun k d R' hm => ?_, fun j o' hj hjl => ?_, h5⟩
    · have := h2 k d R' hm (by omega)
      unfold addT at this
      split at this
      · rcases List.mem_cons.1 this with hm | hm
        · simp only [Prod.mk.injEq] at hm; omega
        · exact hm
      · exact this
    · have := h3 k d R' hm
      simp only [List.length_cons] at this ⊢; omega
    · cases j with
      | zero =>
        simp only [List.getElem?_cons_zero, Option.some.injEq] at hj
        subst hj
        refine ⟨R, hmono, fun d' R' hm => ?_, fun A w' hb hbase hd => hobl A w' hb hbase (deps_of fun e he hbn d R' hm => hd e he hbn d R' (h1 _ (hsub _ hm)))⟩
        have := h2 _ d' R' hm (by omega)
        unfold addT at this
        split at this
        · rename_i dd hdd
          rcases List.mem_cons.1 this with hm | hm
          · simp only [Prod.mk.injEq] at hm
            exact ⟨by rw [hdd, hm.2.1], hm.2.2⟩
          · have := hT _ d' R' hm; omega
        · have := hT _ d' R' this; omega
      | succ j =>
        simp only [List.getElem?_cons_succ] at hj
        obtain ⟨R2, a1, a2, a3⟩ := h4 j o' hj (by simp only [List.length_cons] at hjl ⊢; omega)
        exact ⟨R2, a1, fun d' R' hm => a2 d' R' (by rw [show i + 1 + j = i + (j + 1) from by omega]; exact hm), a3⟩

theorem flow_uponL {o : Oper} {A : Act} {w : World} {R : VPred} {K : Act → World → Prop} {Q : Exit → Act → World → Prop}
    (h : flowUponL P L R w ((execOp A.eval o).run P w)) (hk : ∀ v w', L w w' → (R w' v) → K (A.put o.dst v) w') : o.wp P A w K Q := by
  unfold Oper.wp
  generalize (execOp A.eval o).run P w = r at *
  cases r with
  | ok n w' =>
    cases n <;> simp only [flowUponL] at h <;> simp only [Oper.upon]
    case value u => exact hk _ _ h.1 h.2
    case skip => exact hk _ _ h.1 h.2
    case enter f args =>
      refine h.mono ?_
      rintro e w2 ⟨v, rfl, hb, hr⟩
      exact hk _ _ hb hr
  | halt x w' => simp only [flowUponL] at h
theorem last_upon {o : Oper} {A : Act} {w : World} {K K' : Act → World → Prop} {Q : Exit → Act → World → Prop}
    (h : lastUpon P K' o A ((execOp A.eval o).run P w)) (hk : ∀ v w', K' (A.put o.dst v) w' → K (A.put o.dst v) w') : o.wp P A w K Q := by
  unfold Oper.wp
  generalize (execOp A.eval o).run P w = r at *
  cases r with
  | ok n w' =>
    cases n <;> simp only [lastUpon] at h <;> simp only [Oper.upon]
    case value u => exact hk _ _ h
    case skip => exact hk _ _ h
    case enter f args =>
      refine h.mono ?_
      rintro e w2 ⟨v, rfl, hr⟩
      exact hk _ _ hr
  | halt x w' => simp only [lastUpon] at h

/-- Every operation but the last is waited for by a later one. -/
def feedB (l : List Oper) : Bool := (List.range (l.length - 1)).all fun i => (List.range l.length).any fun j => decide (i < j) && match l[j]? with
  | some o => o.after.toList.any fun e => e.on == i && Region.binds .any e
  | none => false
theorem feedB_spec {l : List Oper} (h : feedB l = true) (i : Nat) (hi : i + 1 < l.length) : ∃ (j : Nat) (o : Oper), i < j ∧ l[j]? = some o ∧ ∃ e ∈ o.after.toList, e.on = i ∧ Region.binds .any e = true := by
  have h1 := List.all_eq_true.1 h i (List.mem_range.2 (by omega))
  obtain ⟨j, hj, h2⟩ := List.any_eq_true.1 h1
  simp only [Bool.and_eq_true, decide_eq_true_eq] at h2
  obtain ⟨hij, h3⟩ := h2
  cases ho : l[j]? with
  | none => rw [ho] at h3; simp at h3
  | some o =>
    rw [ho] at h3
    simp only [List.any_eq_true, Bool.and_eq_true, beq_iff_eq] at h3
    obtain ⟨e, he, h4, h5⟩ := h3
    exact ⟨j, o, hij, ho, e, he, h4, h5⟩

theorem wp_region_flowL {id : Nat} {Q : Exit → Act → World → Prop} {a : Act} {w : World} {l : List Oper} (hdr : ∀ w : World, L w w.drew) (htr : ∀ a b c, L a b → L b c → L a c) (bs : List Nat) (n : Nat) (hm : P.follows .mixedOrders = true) (hn : a.tmps.size = n)
    (hB : flowB n l = true) (hO : flowO l 0 = true) (hF : feedB l = true) (hbs : bs.all (fun t => l.dropLast.all (fun o => o.dst != some t)) = true) (h : FlowL P L w a bs Q l l 0 []) : (Code.region id l.toArray true).wp P Q a w := by
  obtain ⟨T, last, hlast, hpos, -, -, hlen, hobl, hfin⟩ := flow_tableL l 0 [] (by simp) h
  subst hn
  have hdrop : ∀ i, i + 1 < l.length → l.dropLast[i]? = l[i]? := fun i hi => by
    rw [List.getElem?_dropLast, if_pos (by omega)]
  refine wp_region_any hm ?_
  refine wpAny_inv (fun listed A w' => listed.size = l.length ∧ ((listed.getD (l.length - 1) false = false ∧ L w w' ∧ A.defers = a.defers ∧ A.tmps.size = a.tmps.size ∧ (∀ t, a.tmps[t]? ≠ A.tmps[t]? → ∃ (i : Nat) (o : Oper), l[i]? = some o ∧ o.dst = some t ∧ listed.getD i false = true) ∧
      (∀ (j : Nat) (o : Oper), l[j]? = some o → listed.getD j false = true → ∀ e ∈ o.after.toList, Region.binds .any e = true → listed.getD e.on false = true) ∧
      (∀ i d R, (i, d, R) ∈ T → listed.getD i false = true → R w' (A.eval (.tmp d)))) ∨ ((∀ i, i < l.length → listed.getD i false = true) ∧ Q .normal A w'))) ?_ ?_ (fun listed => unl listed.toList) ?_ _ _ _ _ ?_ ?_
  · rintro listed A w' i ⟨hsz, hI⟩ hi
    obtain ⟨hun, o, ho, haft⟩ := mem_ready.1 hi
    have ho' : l[i]? = some o := by simpa using ho
    have hil : i < l.length := (List.getElem?_eq_some_iff.1 ho').1
    obtain ⟨hg, hd⟩ := flowB_spec hB i o ho'
    rcases hI with ⟨hnl, hbel, hdef, hts, hdiff, hcl, hall⟩ | ⟨hdone, -⟩
    · unfold wpOp
      rw [ho]
      simp only [Region.wanted, hg, if_true]
      by_cases hil1 : i + 1 < l.length
      · obtain ⟨R, hmono, huniq, hob⟩ := hobl i o ho' hil1
        simp only [Nat.zero_add] at huniq
        refine .inl (flow_uponL (hob A w' hbel (baseF_of fun t ht => ?_) fun e he hb d R hmem => hall _ d R hmem (haft e (by simpa using he) hb)) fun v w2 hb2 hR => ?_)
        · have h1 := List.all_eq_true.1 hbs t ht
          have h2 : ∀ o ∈ l.dropLast, o.dst ≠ some t := fun o ho => by simpa using List.all_eq_true.1 h1 o ho
          have h3 : a.tmps[t]? = A.tmps[t]? := Classical.byContradiction fun hne => by
            obtain ⟨j, oj, hj, hdj, hlj⟩ := hdiff t hne
            have hjl : j < l.length := (List.getElem?_eq_some_iff.1 hj).1
            have hj1 : j + 1 < l.length := by
              by_cases hjj : j = l.length - 1
              · subst hjj; rw [hnl] at hlj; cases hlj
              · omega
            exact h2 oj (List.mem_of_getElem? ((hdrop j hj1).trans hj)) hdj
          simp only [Act.eval, Array.getD_eq_getD_getElem?, h3]
        · refine ⟨by simpa using hsz, .inl ⟨?_, htr _ _ _ hbel hb2, ?_, ?_, ?_, ?_, ?_⟩⟩
          · rw [getD_set_ne false (by omega)]; exact hnl
          · rw [← hdef]; unfold Act.put; split <;> rfl
          · rw [← hts]; unfold Act.put; split <;> simp
          · intro t ht
            by_cases hdt : o.dst = some t
            · exact ⟨i, o, ho', hdt, getD_set_self (by omega)⟩
            · refine (hdiff t fun he => ht ?_).imp fun j => Exists.imp fun oj h => ⟨h.1, h.2.1, getD_set_mono h.2.2⟩
              rw [he]
              unfold Act.put
              split
              · rename_i t' ht'
                have : t' ≠ t := fun e => hdt (by rw [ht', e])
                rw [Array.getElem?_setIfInBounds_ne this]
              · rfl
          · intro j oj hj hlj e he hb
            by_cases hij : i = j
            · subst hij
              obtain rfl : o = oj := by rw [ho'] at hj; exact Option.some.inj hj
              exact getD_set_mono (haft e (by simpa using he) hb)
            · rw [getD_set_ne false hij] at hlj
              exact getD_set_mono (hcl j oj hj hlj e he hb)
          · intro k d R' hmem hk
            have hk1 : k + 1 < l.length := by simpa using hlen k d R' hmem
            by_cases hki : i = k
            · subst hki
              obtain ⟨hod, rfl⟩ := huniq d R' hmem
              rw [eval_put_eq hod (by rw [hts]; exact (hd d hod).1)]
              exact hR
            · have hk' : listed.getD k false = true := by rw [getD_set_ne false hki] at hk; exact hk
              have hold := hall k d R' hmem hk'
              have hkl : k < l.length := by omega
              have hko : l[k]? = some l[k] := by simp [hkl]
              obtain ⟨R2, hmono2, huniq2, -⟩ := hobl k l[k] hko hk1
              simp only [Nat.zero_add] at huniq2
              obtain ⟨hod, rfl⟩ := huniq2 d R' hmem
              have hne : o.dst ≠ some d := fun hd0 => by
                rcases Nat.lt_or_gt_of_ne hki with h | h
                · exact (hd d hd0).2 k l[k] hko h hod
                · exact ((flowB_spec hB k l[k] hko).2 d hod).2 i o ho' h hd0
              rw [eval_put_ne hne]
              exact hmono2 _ _ _ hold hb2
      · obtain rfl : i = l.length - 1 := by omega
        obtain rfl : last = o := by rw [ho'] at hlast; exact (Option.some.inj hlast).symm
        have hdone : ∀ m k, k + 1 < l.length → l.length - k ≤ m → listed.getD k false = true := by
          intro m
          induction m with
          | zero => intro k hk hm; omega
          | succ m ih =>
            intro k hk hm
            obtain ⟨j, oj, hkj, hj, e, he, heo, heb⟩ := feedB_spec hF k hk
            have hjl : j < l.length := (List.getElem?_eq_some_iff.1 hj).1
            by_cases hjl1 : j + 1 < l.length
            · have := hcl j oj hj (ih j hjl1 (by omega)) e he heb
              rw [heo] at this; exact this
            · obtain rfl : j = l.length - 1 := by omega
              obtain rfl : last = oj := by rw [ho'] at hj; exact Option.some.inj hj
              have := haft e (by simpa using he) heb
              rw [heo] at this; exact this
        have hx : frameOf (fun i => match (l[i]?).bind (·.dst) with | some d => A.eval (.tmp d) | none => undef) l.dropLast 0 a = A := by
          refine frame_eq _ A l.dropLast 0 a hdef hts (fun i o d hi hd hlt => ?_) (fun t ht => ?_)
          · have hi1 : i + 1 < l.length := by have := (List.getElem?_eq_some_iff.1 hi).1; simp at this; omega
            rw [hdrop i hi1] at hi
            simp only [Nat.zero_add, hi, Option.bind_some, hd, Act.eval, Array.getD_eq_getD_getElem?]
            have : d < A.tmps.size := by rw [hts]; exact hlt
            simp [this]
          · obtain ⟨j, oj, hj, hdj, hlj⟩ := hdiff t ht
            have hjl : j < l.length := (List.getElem?_eq_some_iff.1 hj).1
            have hj1 : j + 1 < l.length := by
              by_cases hjj : j = l.length - 1
              · subst hjj; rw [hnl] at hlj; cases hlj
              · omega
            exact ⟨j, oj, (hdrop j hj1).trans hj, hdj⟩
        have hq := hfin (fun i => match (l[i]?).bind (·.dst) with | some d => A.eval (.tmp d) | none => undef) w' hbel (allT_of fun k d R hmem => by
          have hk1 : k + 1 < l.length := by simpa using hlen k d R hmem
          have hkl : k < l.length := by omega
          have hko : l[k]? = some l[k] := by simp [hkl]
          obtain ⟨R2, -, huniq2, -⟩ := hobl k l[k] hko hk1
          simp only [Nat.zero_add] at huniq2
          obtain ⟨hod, -⟩ := huniq2 d R hmem
          simp only [hko, Option.bind_some, hod]
          exact hall k d R hmem (hdone l.length k hk1 (by omega)))
        rw [hx] at hq
        refine .inl (last_upon hq.out fun v w2 hv => ⟨by simpa using hsz, .inr ⟨fun k hk => ?_, hv⟩⟩)
        by_cases hk1 : k + 1 < l.length
        · exact getD_set_mono (hdone l.length k hk1 (by omega))
        · obtain rfl : k = l.length - 1 := by omega
          exact getD_set_self (by omega)
    · have := hdone i hil
      rw [getD_ft (by omega)] at this
      simp [hun] at this
  · rintro listed A w' ⟨hsz, hI⟩ hno
    rcases hI with ⟨hnl, hbel, hdef, hts, hdiff, hcl, hall⟩ | ⟨-, hq⟩
    · exfalso
      have hdone : ∀ k, k < l.length → listed.getD k false = true := by
        intro k
        induction k using Nat.strongRecOn with
        | _ k ih =>
          intro hk
          refine Classical.byContradiction fun hf => hno k (mem_ready.2 ⟨?_, l[k], by simp [hk], fun e he hb => ?_⟩)
          · have hks : k < listed.size := by omega
            simp only [Array.getD_eq_getD_getElem?, Array.getElem?_eq_getElem hks, Option.getD_some] at hf ⊢
            simpa using hf
          · have hlt := flowO_spec hO k l[k] (by simp [hk]) e (by simpa using he) hb
            exact ih e.on (by omega) (by omega)
      rw [hdone (l.length - 1) (by omega)] at hnl
      cases hnl
    · exact hq
  · rintro listed A w' i ⟨hsz, -⟩ hi
    obtain ⟨hun, o, ho, -⟩ := mem_ready.1 hi
    have hil : i < listed.size := by have := (Array.getElem?_eq_some_iff.1 ho).1; simp at this; omega
    simp only [Array.toList_setIfInBounds]
    refine unl_set _ _ ?_
    simp only [Array.getD_eq_getD_getElem?, Array.getElem?_eq_getElem hil, Option.getD_some] at hun
    simp [hil, hun]
  · simp [unl_rep]
  · refine ⟨by simp, .inl ⟨?_, hdr w, rfl, rfl, fun t ht => absurd rfl ht, fun j o _ hl => ?_, fun i d R _ hl => ?_⟩⟩
    · simp [Array.getD_eq_getD_getElem?, Array.getElem?_replicate]; split <;> simp
    · simp [Array.getD_eq_getD_getElem?, Array.getElem?_replicate] at hl; split at hl <;> simp at hl
    · simp [Array.getD_eq_getD_getElem?, Array.getElem?_replicate] at hl; split at hl <;> simp at hl

theorem flowL_valE {w : World} {a : Act} {bs : List Nat} {Q : Exit → Act → World → Prop} {l0 rest : List Oper} {i : Nat} {T : FTab} {d : Tmp} {op : Op} {ty : TypeId} {pos : String} {es : Array Edge} {g : Option (Nat × Bool)} {o2 : Oper}
    (h : ∃ e, (∀ A w', L w w' → baseF A a bs → deps T A w' es.toList → flowUponL P L (fun _ v => v = e) w' ((execOp A.eval ⟨some d, op, ty, pos, es, g⟩).run P w')) ∧
      FlowL P L w a bs Q l0 (o2 :: rest) (i + 1) ((i, d, fun _ v => v = e) :: T)) : FlowL P L w a bs Q l0 (⟨some d, op, ty, pos, es, g⟩ :: o2 :: rest) i T :=
  let ⟨e, h, k⟩ := h
  ⟨_, fun _ _ _ h _ => h, h, k⟩
theorem flowL_last {w : World} {a : Act} {bs : List Nat} {Q : Exit → Act → World → Prop} {l0 : List Oper} {i : Nat} {T : FTab} {o : Oper}
    (h : ∀ x w', L w w' → allT x w' T → LastUpon P (Q .normal) o (frameOf x l0.dropLast 0 a) ((execOp (frameOf x l0.dropLast 0 a).eval o).run P w')) : FlowL P L w a bs Q l0 [o] i T := h
theorem flowL_R {w : World} {a : Act} {bs : List Nat} {Q : Exit → Act → World → Prop} {l0 rest : List Oper} {i : Nat} {T : FTab} {d : Tmp} {op : Op} {ty : TypeId} {pos : String} {es : Array Edge} {g : Option (Nat × Bool)} {o2 : Oper} (R : VPred) (hm : VMonoL L R)
    (h : ∀ A w', L w w' → baseF A a bs → deps T A w' es.toList → flowUponL P L R w' ((execOp A.eval ⟨some d, op, ty, pos, es, g⟩).run P w'))
    (k : FlowL P L w a bs Q l0 (o2 :: rest) (i + 1) ((i, d, R) :: T)) : FlowL P L w a bs Q l0 (⟨some d, op, ty, pos, es, g⟩ :: o2 :: rest) i T := ⟨R, hm, h, k⟩
end
end Go.Proofs.Ytdjikjmjajlgcaa
end

/-! ### YtdjikjmjajlgcaaDrawCmdFnPuts -/
section
namespace Go.Proofs.Ytdjikjmjajlgcaa.PFnPuts
open Go.RowKit Go.Proofs.YtdjikjmjajlgcaaW.PrintWords
set_option linter.unusedSimpArgs false
set_option linter.unusedVariables false

theorem row_ints {W : World} {b : Nat} (xs : List Int) (hl : xs.length ≤ 1048576) (h : ∀ i p, xs[i]? = some p → W.cell? ⟨b, i, none⟩ = some (.int .i64 p)) : Kd.C (Kd.int .i64) W (some ⟨b, 0, none⟩) xs.length xs := by
  refine ⟨rfl, by omega, fun _ => ⟨_, rfl, fun j p hj => ⟨[.int .i64 p], rfl, rfl, fun i u hu => ?_⟩⟩⟩
  rcases i with _ | i
  · obtain rfl : Value.int .i64 p = u := by simpa using hu
    have : Addr.add ⟨b, 0, none⟩ (j * (Kd.int .i64).sz + 0) = ⟨b, j, none⟩ := by
      show Addr.add ⟨b, 0, none⟩ (j * 1 + 0) = ⟨b, j, none⟩
      unfold Addr.add
      rcases j with _ | j <;> simp
    rw [this]
    exact h j p hj
  · simp at hu
theorem row_strs {W : World} {b : Nat} (xs : List ByteArray) (hl : xs.length ≤ 1048576) (h : ∀ i p, xs[i]? = some p → W.cell? ⟨b, i, none⟩ = some (.string p)) : Kd.C Kd.string W (some ⟨b, 0, none⟩) xs.length xs := by
  refine ⟨rfl, by omega, fun _ => ⟨_, rfl, fun j p hj => ⟨[.string p], rfl, rfl, fun i u hu => ?_⟩⟩⟩
  rcases i with _ | i
  · obtain rfl : Value.string p = u := by simpa using hu
    have : Addr.add ⟨b, 0, none⟩ (j * Kd.string.sz + 0) = ⟨b, j, none⟩ := by
      show Addr.add ⟨b, 0, none⟩ (j * 1 + 0) = ⟨b, j, none⟩
      unfold Addr.add
      rcases j with _ | j <;> simp
    rw [this]
    exact h j p hj
  · simp at hu
theorem blk_ints {T b : Nat} {W : World} (xs : List Int) (hl : xs.length ≤ 1048576) (h : Blk T b (xs.map (Value.int .i64)).toArray W) : Kd.C (Kd.int .i64) W (some ⟨b, 0, none⟩) xs.length xs :=
  row_ints xs hl fun i p hp => h.cell i (by simp [hp])
theorem blk_strs {T b : Nat} {W : World} (xs : List ByteArray) (hl : xs.length ≤ 1048576) (h : Blk T b (xs.map Value.string).toArray W) : Kd.C Kd.string W (some ⟨b, 0, none⟩) xs.length xs :=
  row_strs xs hl fun i p hp => h.cell i (by simp [hp])

/-- A draw under way: the cursor at g; of what was there ahead of the call just the cursor's block was written. -/
def Dw (w0 w : World) (g : Nat) (W : World) : Prop := Cur w0 W g ∧ KeepBut w W g none
theorem Dw.start {w0 w : World} {g : Nat} (h : Cur w0 w g) : Dw w0 w g w := ⟨h, KeepBut.refl _ _ _⟩
theorem Dw.step {w0 w W W' : World} {g : Nat} (h : Dw w0 w g W) (hc : Cur w0 W' g) (hk : KeepBut W W' g none) : Dw w0 w g W' := ⟨hc, h.2.trans hk (.inl rfl)⟩
theorem Dw.below {w0 w W W' : World} {g : Nat} (h : Dw w0 w g W) (hb : Below W.heap.size W W') : Dw w0 w g W' := h.step (h.1.below hb) (KeepBut.of_below hb g none)
theorem Dw.alloc {w0 w W : World} {g : Nat} (h : Dw w0 w g W) (o : Obj) : Dw w0 w g (W.alloc o) := h.below (bl_alloc (Below.refl _ _) o)
theorem Dw.drewN {w0 w W : World} {g : Nat} (h : Dw w0 w g W) (n : Nat) : Dw w0 w g (W.drewN n) := h.below (bl_drewN (Below.refl _ _) n)
theorem Dw.size {w0 w W : World} {g : Nat} (h : Dw w0 w g W) : w.heap.size ≤ W.heap.size := h.2.1
theorem Dw.far {w0 w W : World} {g : Nat} (h : Dw w0 w g W) (hw : g < w.heap.size) {p : Addr} (hp : w.heap.size ≤ p.block) (v : Value) (h0 : w0.heap.size ≤ w.heap.size) : Dw w0 w g (W.setCell p v) := by
  refine ⟨h.1.far (by omega) (by omega) v, ?_, fun i hi hne hr => ?_⟩
  · simpa using h.2.1
  · rw [Below.heap_setCell W p v i (by omega)]
    exact h.2.2 i hi hne hr
theorem calls_at {P : Program} {f : Nat} {args : Array Value} {E : World} {Q : Ending → World → Prop} (R : World → Prop) (h : R E) (k : ∀ W, R W → Calls P f args W Q) : Calls P f args E Q := k E h

set_option maxHeartbeats 1000000 in
set_option maxRecDepth 100000 in
theorem lease_C (A : Option Addr) (n c : Nat) (d : Int) (w : World) :
    Calls Try.prog 182 #[.agg #[.slice A n c, .slice none 0 0, .slice none 0 0, .slice none 0 0], .int .i64 d] w fun e w' => e = .returned (.tuple #[.int .i64 0, .int .i64 0]) ∧ Below w.heap.size w w' := by
  go_enter Try.func182, Try.ntmps182
  go_wp2_with fail
  obtain ⟨X, hX⟩ : ∃ X, X = w.alloc (.cells #[.slice A n c, .slice none 0 0, .slice none 0 0, .slice none 0 0] 48) := ⟨_, rfl⟩
  have k2 : Blk 48 w.heap.size #[.slice A n c, .slice none 0 0, .slice none 0 0, .slice none 0 0] X := by rw [hX]; exact Blk.new _ _ w
  have HX : Below w.heap.size w X := by rw [hX]; exact (by repeat (first | exact Below.refl _ _ | apply bl_alloc | apply bl_drewN | apply bl_drew | refine bl_set ?_ (by simp) | refine bl_then ?_ (by assumption)))
  rw [← hX]
  have c3 := k2.cell 3 rfl
  have l2 := k2.lt
  clear hX
  go_loopg [6] 0 (fun kq v6 w' => v6 = .int .i64 0 ∧ w' = X)
  case atStart => exact ⟨rfl, rfl⟩
  case round =>
    obtain ⟨rfl, rfl⟩ := hrel
    go_wp2_with fail
    go_ret2
    exact ⟨rfl, bl_then HX (by repeat (first | exact Below.refl _ _ | apply bl_alloc | apply bl_drewN | apply bl_drew | refine bl_set ?_ (by simp) | refine bl_then ?_ (by assumption)))⟩
set_option maxHeartbeats 1000000 in
set_option maxRecDepth 100000 in
theorem queue_C (A : Option Addr) (n c : Nat) (d : Int) (w : World) :
    Calls Try.prog 183 #[.agg #[.slice A n c, .slice none 0 0, .slice none 0 0, .slice none 0 0], .int .i64 d] w fun e w' => e = .returned (.agg #[.int .i64 d, .int .i64 0, .slice none 0 0]) ∧ Below w.heap.size w w' := by
  go_enter Try.func183, Try.ntmps183
  go_wp2_with fail
  obtain ⟨X, hX⟩ : ∃ X, X = (w.alloc (.cells #[.slice A n c, .slice none 0 0, .slice none 0 0, .slice none 0 0] 48)).alloc (.cells #[.int .i64 0, .int .i64 0, .slice none 0 0] 127) := ⟨_, rfl⟩
  have k2 : Blk 48 w.heap.size #[.slice A n c, .slice none 0 0, .slice none 0 0, .slice none 0 0] X := by rw [hX]; exact (Blk.new _ _ w).alloc _
  have k4 : Blk 127 (w.heap.size + 1) #[.int .i64 0, .int .i64 0, .slice none 0 0] X := by rw [hX]; exact Blk.newE _ _ (w.alloc _) (by simp)
  have HX : Below w.heap.size w X := by rw [hX]; exact (by repeat (first | exact Below.refl _ _ | apply bl_alloc | apply bl_drewN | apply bl_drew | refine bl_set ?_ (by simp) | refine bl_then ?_ (by assumption)))
  rw [← hX]
  have c3 := k2.cell 2 rfl
  have l2 := k2.lt
  have q0 := k4.cell 0 rfl
  have q1 := k4.cell 1 rfl
  have q2 := k4.cell 2 rfl
  have f0 := k4.free 0
  have f1 := k4.free 1
  have f2 := k4.free 2
  have l4 := k4.lt
  go_loopg [5] 0 (fun kq v6 w' => v6 = .int .i64 0 ∧ w' = X)
  case atStart => exact ⟨rfl, rfl⟩
  case round =>
    obtain ⟨rfl, rfl⟩ := hrel
    go_wp2_with fail
    refine bodyPost_ret (v := .agg #[.int .i64 d, .int .i64 0, .slice none 0 0]) (by simp [results, Try.results183, go_sem]) rfl ⟨rfl, ?_⟩
    exact (by repeat (first | exact Below.refl _ _ | apply bl_alloc | apply bl_drewN | apply bl_drew | refine bl_set ?_ (by simp) | refine bl_then ?_ (by assumption)))
theorem cmd_fill {T b : Nat} {W : World} (h : Blk T b #[.int .i64 0, .int .i64 0, .int .i64 0, .int .i64 0, .int .i64 0, .int .i64 0, .int .i64 0, .int .i64 0, .string ⟨#[]⟩] W) (a0 a1 a2 a3 a4 a5 a6 a7 : Int) (s : ByteArray) :
    Blk T b #[.int .i64 a0, .int .i64 a1, .int .i64 a2, .int .i64 a3, .int .i64 a4, .int .i64 a5, .int .i64 a6, .int .i64 a7, .string s] (((((((((W.setCell ⟨b, 0, none⟩ (.int .i64 a0)).setCell ⟨b, 1, none⟩ (.int .i64 a1)).setCell ⟨b, 2, none⟩ (.int .i64 a2)).setCell ⟨b, 3, none⟩ (.int .i64 a3)).setCell ⟨b, 4, none⟩ (.int .i64 a4)).setCell ⟨b, 5, none⟩ (.int .i64 a5)).setCell ⟨b, 6, none⟩ (.int .i64 a6)).setCell ⟨b, 7, none⟩ (.int .i64 a7)).setCell ⟨b, 8, none⟩ (.string s)) := by
  have z0 := h.set 0 (.int .i64 a0) (cs' := #[.int .i64 a0, .int .i64 0, .int .i64 0, .int .i64 0, .int .i64 0, .int .i64 0, .int .i64 0, .int .i64 0, .string ⟨#[]⟩]) rfl
  have z1 := z0.set 1 (.int .i64 a1) (cs' := #[.int .i64 a0, .int .i64 a1, .int .i64 0, .int .i64 0, .int .i64 0, .int .i64 0, .int .i64 0, .int .i64 0, .string ⟨#[]⟩]) rfl
  have z2 := z1.set 2 (.int .i64 a2) (cs' := #[.int .i64 a0, .int .i64 a1, .int .i64 a2, .int .i64 0, .int .i64 0, .int .i64 0, .int .i64 0, .int .i64 0, .string ⟨#[]⟩]) rfl
  have z3 := z2.set 3 (.int .i64 a3) (cs' := #[.int .i64 a0, .int .i64 a1, .int .i64 a2, .int .i64 a3, .int .i64 0, .int .i64 0, .int .i64 0, .int .i64 0, .string ⟨#[]⟩]) rfl
  have z4 := z3.set 4 (.int .i64 a4) (cs' := #[.int .i64 a0, .int .i64 a1, .int .i64 a2, .int .i64 a3, .int .i64 a4, .int .i64 0, .int .i64 0, .int .i64 0, .string ⟨#[]⟩]) rfl
  have z5 := z4.set 5 (.int .i64 a5) (cs' := #[.int .i64 a0, .int .i64 a1, .int .i64 a2, .int .i64 a3, .int .i64 a4, .int .i64 a5, .int .i64 0, .int .i64 0, .string ⟨#[]⟩]) rfl
  have z6 := z5.set 6 (.int .i64 a6) (cs' := #[.int .i64 a0, .int .i64 a1, .int .i64 a2, .int .i64 a3, .int .i64 a4, .int .i64 a5, .int .i64 a6, .int .i64 0, .string ⟨#[]⟩]) rfl
  have z7 := z6.set 7 (.int .i64 a7) (cs' := #[.int .i64 a0, .int .i64 a1, .int .i64 a2, .int .i64 a3, .int .i64 a4, .int .i64 a5, .int .i64 a6, .int .i64 a7, .string ⟨#[]⟩]) rfl
  have z8 := z7.set 8 (.string s) (cs' := #[.int .i64 a0, .int .i64 a1, .int .i64 a2, .int .i64 a3, .int .i64 a4, .int .i64 a5, .int .i64 a6, .int .i64 a7, .string s]) rfl
  exact z8
theorem dw_fill {w0 w W : World} {g b : Nat} (D : Dw w0 w g W) (hg : g < w.heap.size) (hb : w.heap.size ≤ b) (h0 : w0.heap.size ≤ w.heap.size) (a0 a1 a2 a3 a4 a5 a6 a7 : Int) (s : ByteArray) :
    Dw w0 w g (((((((((W.setCell ⟨b, 0, none⟩ (.int .i64 a0)).setCell ⟨b, 1, none⟩ (.int .i64 a1)).setCell ⟨b, 2, none⟩ (.int .i64 a2)).setCell ⟨b, 3, none⟩ (.int .i64 a3)).setCell ⟨b, 4, none⟩ (.int .i64 a4)).setCell ⟨b, 5, none⟩ (.int .i64 a5)).setCell ⟨b, 6, none⟩ (.int .i64 a6)).setCell ⟨b, 7, none⟩ (.int .i64 a7)).setCell ⟨b, 8, none⟩ (.string s)) := by
  have z0 := D.far hg (p := ⟨b, 0, none⟩) hb (.int .i64 a0) h0
  have z1 := z0.far hg (p := ⟨b, 1, none⟩) hb (.int .i64 a1) h0
  have z2 := z1.far hg (p := ⟨b, 2, none⟩) hb (.int .i64 a2) h0
  have z3 := z2.far hg (p := ⟨b, 3, none⟩) hb (.int .i64 a3) h0
  have z4 := z3.far hg (p := ⟨b, 4, none⟩) hb (.int .i64 a4) h0
  have z5 := z4.far hg (p := ⟨b, 5, none⟩) hb (.int .i64 a5) h0
  have z6 := z5.far hg (p := ⟨b, 6, none⟩) hb (.int .i64 a6) h0
  have z7 := z6.far hg (p := ⟨b, 7, none⟩) hb (.int .i64 a7) h0
  have z8 := z7.far hg (p := ⟨b, 8, none⟩) hb (.string s) h0
  exact z8
theorem wp_at {P : Program} {c : Code} {Q : Exit → Act → World → Prop} {a : Act} {E : World} (R : World → Prop) (h : R E) (k : ∀ W, R W → c.wp P Q a W) : c.wp P Q a E := k E h
/-- A command that is being drawn: the house, the answer's cell, the command's own cell. -/
def CmdAt (w0 w : World) (g b b5 : Nat) (tok lst : Int) (W : World) : Prop := Dw w0 w g W ∧ Blk 48 w.heap.size #[.slice (some ⟨b, 0, none⟩) 1 1, .slice none 0 0, .slice none 0 0, .slice none 0 0] W ∧ Blk 193 (w.heap.size + 1) #[.int .i64 0, .int .i64 0, .int .i64 0, .int .i64 0, .int .i64 0, .int .i64 0, .int .i64 0, .int .i64 0, .string ⟨#[]⟩] W ∧
  Blk 120 b #[.int .i64 tok, .int .i64 lst, .slice none 0 0] W ∧ ∃ (a0 a1 a2 a3 a4 a5 a6 a7 : Int) (s : ByteArray), s.size ≤ 8 ∧ Blk 193 b5 #[.int .i64 a0, .int .i64 a1, .int .i64 a2, .int .i64 a3, .int .i64 a4, .int .i64 a5, .int .i64 a6, .int .i64 a7, .string s] W
section
variable {w0 w : World} {g b b5 : Nat} {tok lst : Int} {W : World} (hg : g < w.heap.size) (hb : b < w.heap.size) (hne : b ≠ g) (h5 : w.heap.size + 2 ≤ b5) (h0 : w0.heap.size ≤ w.heap.size)
set_option linter.unusedSectionVars false
include hg hb hne h5
theorem CmdAt.step {W' : World} (h : CmdAt w0 w g b b5 tok lst W) (hc : Cur w0 W' g) (hk : KeepBut W W' g none) : CmdAt w0 w g b b5 tok lst W' := by
  obtain ⟨D, k3, k4, kS, a0, a1, a2, a3, a4, a5, a6, a7, s, hs, k5⟩ := h
  exact ⟨D.step hc hk, blk_keep k3 hk (by omega), blk_keep k4 hk (by omega), blk_keep kS hk hne, a0, a1, a2, a3, a4, a5, a6, a7, s, hs, blk_keep k5 hk (by omega)⟩
omit hg hb hne h5 in
theorem CmdAt.alloc (h : CmdAt w0 w g b b5 tok lst W) (o : Obj) : CmdAt w0 w g b b5 tok lst (W.alloc o) := by
  obtain ⟨D, k3, k4, kS, a0, a1, a2, a3, a4, a5, a6, a7, s, hs, k5⟩ := h
  exact ⟨D.alloc o, k3.alloc o, k4.alloc o, kS.alloc o, a0, a1, a2, a3, a4, a5, a6, a7, s, hs, k5.alloc o⟩
omit hg hb hne h5 in
theorem CmdAt.below {W' : World} (h : CmdAt w0 w g b b5 tok lst W) (hb : Below W.heap.size W W') : CmdAt w0 w g b b5 tok lst W' := by
  obtain ⟨D, k3, k4, kS, a0, a1, a2, a3, a4, a5, a6, a7, s, hs, k5⟩ := h
  exact ⟨D.below hb, k3.below hb, k4.below hb, kS.below hb, a0, a1, a2, a3, a4, a5, a6, a7, s, hs, k5.below hb⟩
include h0
theorem CmdAt.far (h : CmdAt w0 w g b b5 tok lst W) {p : Addr} (hp : w.heap.size + 2 ≤ p.block) (hp5 : b5 ≠ p.block) (v : Value) : CmdAt w0 w g b b5 tok lst (W.setCell p v) := by
  obtain ⟨D, k3, k4, kS, a0, a1, a2, a3, a4, a5, a6, a7, s, hs, k5⟩ := h
  exact ⟨D.far hg (by omega) v h0, k3.far (by omega) v, k4.far (by omega) v, kS.far (by omega) v, a0, a1, a2, a3, a4, a5, a6, a7, s, hs, k5.far hp5 v⟩
theorem CmdAt.set (h : CmdAt w0 w g b b5 tok lst W) (o : Nat) (ho : o < 8) (v : Int) : CmdAt w0 w g b b5 tok lst (W.setCell ⟨b5, o, none⟩ (.int .i64 v)) := by
  obtain ⟨D, k3, k4, kS, a0, a1, a2, a3, a4, a5, a6, a7, s, hs, k5⟩ := h
  refine ⟨D.far hg (by show w.heap.size ≤ b5; omega) _ h0, k3.far (by show w.heap.size ≠ b5; omega) _, k4.far (by show w.heap.size + 1 ≠ b5; omega) _, kS.far (by show b ≠ b5; omega) _, ?_⟩
  rcases o with _ | _ | _ | _ | _ | _ | _ | _ | o
  · exact ⟨v, a1, a2, a3, a4, a5, a6, a7, s, hs, k5.set 0 _ rfl⟩
  · exact ⟨a0, v, a2, a3, a4, a5, a6, a7, s, hs, k5.set 1 _ rfl⟩
  · exact ⟨a0, a1, v, a3, a4, a5, a6, a7, s, hs, k5.set 2 _ rfl⟩
  · exact ⟨a0, a1, a2, v, a4, a5, a6, a7, s, hs, k5.set 3 _ rfl⟩
  · exact ⟨a0, a1, a2, a3, v, a5, a6, a7, s, hs, k5.set 4 _ rfl⟩
  · exact ⟨a0, a1, a2, a3, a4, v, a6, a7, s, hs, k5.set 5 _ rfl⟩
  · exact ⟨a0, a1, a2, a3, a4, a5, v, a7, s, hs, k5.set 6 _ rfl⟩
  · exact ⟨a0, a1, a2, a3, a4, a5, a6, v, s, hs, k5.set 7 _ rfl⟩
  · omega
theorem CmdAt.setS (h : CmdAt w0 w g b b5 tok lst W) (v : ByteArray) (hv : v.size ≤ 8) : CmdAt w0 w g b b5 tok lst (W.setCell ⟨b5, 8, none⟩ (.string v)) := by
  obtain ⟨D, k3, k4, kS, a0, a1, a2, a3, a4, a5, a6, a7, s, hs, k5⟩ := h
  exact ⟨D.far hg (by show w.heap.size ≤ b5; omega) _ h0, k3.far (by show w.heap.size ≠ b5; omega) _, k4.far (by show w.heap.size + 1 ≠ b5; omega) _, kS.far (by show b ≠ b5; omega) _, a0, a1, a2, a3, a4, a5, a6, a7, v, hv, k5.set 8 _ rfl⟩
end

attribute [local go_sem] flowUponL lastUpon
set_option maxHeartbeats 4000000 in
set_option maxRecDepth 100000 in
theorem cmd_C {w0 w : World} {g b : Nat} (hc : Cur w0 w g) (tok lst : Int) (hl : 0 ≤ lst ∧ lst ≤ 100) (hS : Blk 120 b #[.int .i64 tok, .int .i64 lst, .slice none 0 0] w) (hne : b ≠ g) :
    Calls Try.prog 171 #[.pointer (some ⟨g, 0, none⟩), .agg #[.slice (some ⟨b, 0, none⟩) 1 1, .slice none 0 0, .slice none 0 0, .slice none 0 0]] w fun e w' => (∃ (a0 a1 a2 a3 a4 a5 a6 a7 : Int) (s : ByteArray), e = .returned (.agg #[.int .i64 a0, .int .i64 a1, .int .i64 a2, .int .i64 a3, .int .i64 a4, .int .i64 a5, .int .i64 a6, .int .i64 a7, .string s]) ∧ s.size ≤ 8) ∧ Dw w0 w g w' := by
  have hb := hS.lt
  have hgl := hc.lt
  have hge := hc.ge
  have hws := hc.bl.size
  go_enter Try.func171, Try.ntmps171
  go_wp2_with fail
  refine calls_at (fun W => Dw w0 w g W ∧ Blk 48 w.heap.size #[.slice (some ⟨b, 0, none⟩) 1 1, .slice none 0 0, .slice none 0 0, .slice none 0 0] W ∧ Blk 193 (w.heap.size + 1) #[.int .i64 0, .int .i64 0, .int .i64 0, .int .i64 0, .int .i64 0, .int .i64 0, .int .i64 0, .int .i64 0, .string ⟨#[]⟩] W ∧ Blk 3 (w.heap.size + 1 + 1) (([1, 2, 2, 3, 4, 4, 4, 4, 5, 5, 6, 6, 6, 7] : List Int).map (Value.int .i64)).toArray W) ?_ ?_
  · exact ⟨(((Dw.start hc).alloc _).alloc _).alloc _, ((Blk.new _ _ w).alloc _).alloc _, (Blk.newE _ _ (w.alloc _) (by simp)).alloc _, Blk.newE _ _ ((w.alloc _).alloc _) (by simp)⟩
  rintro W1 ⟨D1, k3, k4, kl⟩
  refine (pickInt_C _ 14 [1, 2, 2, 3, 4, 4, 4, 4, 5, 5, 6, 6, 6, 7] (by decide) D1.1 (blk_ints _ (by decide) kl) (by decide) (by rintro ad ⟨⟩; show w.heap.size + 1 + 1 ≠ g; omega)).mono ?_
  rintro e W2 ⟨r, rfl, -, hc2, hk2⟩
  have D2 := D1.step hc2 hk2
  replace k3 := blk_keep k3 hk2 (by omega)
  replace k4 := blk_keep k4 hk2 (by omega)
  have z2 := D2.size
  clear D1 hk2 kl hc2 W1
  have c0 := k3.cell 0 rfl
  have l3 := k3.lt
  have kS := blk_keep hS D2.2 hne
  clear hc hS
  go_upto_region 4 with fail
  have h5 : w.heap.size + 2 ≤ W2.heap.size := by have := k4.lt; omega
  obtain ⟨b5, hb5⟩ : ∃ b5, b5 = W2.heap.size := ⟨_, rfl⟩
  refine wp_at (CmdAt w0 w g b b5 tok lst) ⟨D2.alloc _, k3.alloc _, k4.alloc _, kS.alloc _, r, 0, 0, 0, 0, 0, 0, 0, ⟨#[]⟩, by decide, Blk.newE _ _ W2 hb5⟩ ?_
  rw [← hb5] at h5 ⊢
  clear D2 k3 k4 kS c0 l3 z2 hb5 W2
  intro W hW
  go_cut [31] from 24 to 31 (fun v31 wx => ∃ q : Bool, v31 = .bool q ∧ CmdAt w0 w g b b5 tok lst wx)
  case first =>
    obtain ⟨D, k3, k4, kS, a0, a1, a2, a3, a4, a5, a6, a7, s, hs, k5⟩ := id hW
    have c5 := k5.cell 0 rfl
    have l5 := k5.lt
    obtain ⟨q, hq⟩ : ∃ q, (a0 == 7) = q := ⟨_, rfl⟩
    cases q with
    | false =>
      go_wp2_with fail
      go_meet
      exact ⟨_, rfl, hW⟩
    | true =>
      go_wp2_with fail
      refine (once_C 3 D.1).mono ?_
      rintro e W3 ⟨q, rfl, hc3, hk3⟩
      go_wp2_with fail
      go_meet
      exact ⟨_, rfl, hW.step hgl hb hne h5 hc3 hk3⟩
  case rest =>
    obtain ⟨q, rfl, hV⟩ := hcut
    clear hW W
    go_upto_if 31 with fail
    go_cut [] from 32 to 32 (fun wx => CmdAt w0 w g b b5 tok lst wx)
    case first =>
      obtain ⟨D, k3, k4, kS, a0, a1, a2, a3, a4, a5, a6, a7, s, hs, k5⟩ := id hV
      have c5 := k5.cell 0 rfl
      have f5 := k5.free 0
      have l5 := k5.lt
      cases q with
      | false =>
        go_wp2_with fail
        go_meet
        exact hV
      | true =>
        go_wp2_with fail
        go_meet
        exact hV.set hgl hb hne h5 hws 0 (by decide) _
    case rest =>
      have hU := hcut
      clear hV hcut
      go_upto_region 6 with fail
      go_cut [41] from 33 to 41 (fun v41 wx => ∃ q : Bool, v41 = .bool q ∧ CmdAt w0 w g b b5 tok lst wx)
      case first =>
        obtain ⟨D, k3, k4, kS, a0, a1, a2, a3, a4, a5, a6, a7, s, hs, k5⟩ := id hU
        have c5 := k5.cell 0 rfl
        have l5 := k5.lt
        have c0 := k3.cell 0 rfl
        have l3 := k3.lt
        obtain ⟨q, hq⟩ : ∃ q, (a0 != 1) = q := ⟨_, rfl⟩
        cases q with
        | false =>
          go_wp2_with fail
          go_meet
          exact ⟨_, rfl, hU⟩
        | true =>
          go_wp2_with fail
          go_meet
          exact ⟨_, rfl, hU⟩
      case rest =>
        obtain ⟨q, rfl, hV⟩ := hcut
        clear hU
        go_upto_if 41 with fail
        go_cut [6] from 42 to 72 (fun v6 wx => CmdAt w0 w g b b5 tok lst wx)
        case first =>
          cases q with
          | false =>
            go_wp2_with fail
            go_meet
            exact hV
          | true =>
            go_upto_region 7 with fail
            go_cut [6] from 42 to 50 (fun v6 wx => ∃ b6, v6 = .pointer (some ⟨b6, 0, none⟩) ∧ b6 ≠ b5 ∧ w.heap.size + 2 ≤ b6 ∧ CmdAt w0 w g b b5 tok lst wx ∧ Blk 120 b6 #[.int .i64 tok, .int .i64 lst, .slice none 0 0] wx)
            case first =>
              obtain ⟨D, k3, k4, kS, a0, a1, a2, a3, a4, a5, a6, a7, s, hs, k5⟩ := id hV
              have c0 := k3.cell 0 rfl
              have l3 := k3.lt
              have cS0 := kS.cell 0 rfl
              have cS1 := kS.cell 1 rfl
              have cS2 := kS.cell 2 rfl
              have lS := kS.lt
              have n3 : w.heap.size ≠ g := by omega
              have l5 := k5.lt
              refine wp_region_flowL (L := LD w0 g) (LD.drew w0 g) (LD.trans w0 g) [0, 3] 137 (by kernel_rfl) (by rfl) (by kernel_rfl) (by kernel_rfl) (by kernel_rfl) (by kernel_rfl) ?_
              iterate 9 (refine flowL_valE ?_; apply Exists.intro; refine ⟨fun A wq hLq hbq hdq => ?_, ?_⟩; focus (obtain ⟨hkc, hkf⟩ := kcell hLq.2; have hkz := hLq.2.1; (try simp [go_sem, baseF, deps, dep1, Region.binds] at hbq); (try simp [go_sem, baseF, deps, dep1, Region.binds] at hdq); go_simp; first | exact ⟨LD.refl _ _ _, rfl⟩ | (first | (go_at_call 105; refine (below_C _ (hLq.1 D.1)).mono ?_; rintro e w3 ⟨r3, rfl, ⟨hr0, hr1, -⟩, hc3, hk3⟩; obtain rfl : r3 = 0 := (by have := hr1 (by decide); omega); exact ⟨rfl, fun _ => hc3, hk3⟩))))
              have hgc := D.1.lt
              refine flowL_R (fun W v => ∃ b6, v = .pointer (some ⟨b6, 0, none⟩) ∧ wc.heap.size ≤ b6 ∧ Blk 120 b6 #[.int .i64 0, .int .i64 0, .slice none 0 0] W) (fun W W' v ⟨b6, e, hb6, hk⟩ hL => ⟨b6, e, hb6, blk_keep hk hL.2 (by omega)⟩) (fun A wq hLq hbq hdq => ?_) ?_
              · (try simp [go_sem, baseF, deps, dep1, Region.binds] at hbq)
                go_simp
                exact ⟨LD.below (bl_alloc (Below.refl _ _) _), hLq.2.1, Blk.new _ _ wq⟩
              with_reducible refine flowL_last ?_
              intro x wq hLq hall
              simp only [allT] at hall
              obtain ⟨⟨b6, x9, hb6, k6⟩, hall⟩ := hall
              have hq := hV.step hgl hb hne h5 (hLq.1 D.1) hLq.2
              have z6 := hLq.2.1
              have c60 := k6.cell 0 rfl
              have c61 := k6.cell 1 rfl
              have c62 := k6.cell 2 rfl
              have f60 := k6.free 0
              have f61 := k6.free 1
              have f62 := k6.free 2
              have l6 := k6.lt
              refine ⟨?_⟩
              simp [frameOf, Act.put, List.dropLast, x9, hall]
              clear hall
              go_simp
              go_wp2_with fail
              go_meet
              exact ⟨b6, rfl, by omega, by omega, ((hq.far hgl hb hne h5 hws (by show w.heap.size + 2 ≤ b6; omega) (by show b5 ≠ b6; omega) _).far hgl hb hne h5 hws (by show w.heap.size + 2 ≤ b6; omega) (by show b5 ≠ b6; omega) _).far hgl hb hne h5 hws (by show w.heap.size + 2 ≤ b6; omega) (by show b5 ≠ b6; omega) _, ((k6.set 0 _ rfl).set 1 _ rfl).set 2 _ rfl⟩
            case rest =>
              obtain ⟨b6, rfl, n65, h6, hU, k6⟩ := hcut
              clear hV
              obtain ⟨D, k3, k4, kS, a0, a1, a2, a3, a4, a5, a6, a7, s, hs, k5⟩ := id hU
              have c50 := k5.cell 1 rfl
              have f50 := k5.free 1
              have c51 := k5.cell 2 rfl
              have f51 := k5.free 2
              have l5 := k5.lt
              have l6 := k6.lt
              have c60 := k6.cell 0 rfl
              have c61 := k6.cell 1 rfl
              have n6g : b6 ≠ g := by omega
              go_wp2_with fail
              refine calls_at (fun W => CmdAt w0 w g b b5 tok lst W ∧ Blk 120 b6 #[.int .i64 tok, .int .i64 lst, .slice none 0 0] W) ⟨(hU.set hgl hb hne h5 hws 1 (by decide) _).set hgl hb hne h5 hws 2 (by decide) _, (k6.far (by exact n65) _).far (by exact n65) _⟩ ?_
              rintro W3 ⟨hA, k6'⟩
              clear hU k6 c50 f50 c51 f51 l5 l6 c60 c61 D k3 k4 kS k5
              refine (below_C 8 hA.1.1).mono ?_
              rintro e W4 ⟨r4, rfl, hr4, hc4, hk4⟩
              have hB := hA.step hgl hb hne h5 hc4 hk4
              have k6 := blk_keep k6' hk4 n6g
              clear hA k6' hk4 W3 hc4
              have l6 := k6.lt
              have c61 := k6.cell 1 rfl
              obtain ⟨qa, hqa⟩ : ∃ qa, (r4 == 0) = qa := ⟨_, rfl⟩
              obtain ⟨qb, hqb⟩ : ∃ qb, (r4 == 1) = qb := ⟨_, rfl⟩
              cases qa with
              | true =>
                go_wp2_with fail
                refine (below_C _ hB.1.1).mono ?_
                rintro e W5 ⟨r5, rfl, hr5, hc5, hk5⟩
                have hC := hB.step hgl hb hne h5 hc5 hk5
                obtain ⟨D, k3, k4, kS, a0, a1, a2, a3, a4, a5, a6, a7, s, hs, k5⟩ := id hC
                have c50 := k5.cell 2 rfl
                have f50 := k5.free 2
                have l5 := k5.lt
                go_wp2_with fail
                go_meet
                exact hC.set hgl hb hne h5 hws 2 (by decide) _
              | false =>
                cases qb with
                | true =>
                  go_wp2_with fail
                  refine (below_C _ hB.1.1).mono ?_
                  rintro e W5 ⟨r5, rfl, hr5, hc5, hk5⟩
                  have hC := hB.step hgl hb hne h5 hc5 hk5
                  obtain ⟨D, k3, k4, kS, a0, a1, a2, a3, a4, a5, a6, a7, s, hs, k5⟩ := id hC
                  have c50 := k5.cell 1 rfl
                  have f50 := k5.free 1
                  have l5 := k5.lt
                  go_wp2_with fail
                  go_meet
                  exact hC.set hgl hb hne h5 hws 1 (by decide) _
                | false =>
                  go_wp2_with fail
                  go_meet
                  exact hB
        case rest =>
          have hU := hcut
          clear hV hcut
          go_wp2_with fail
          refine (below_C 3 hU.1.1).mono ?_
          rintro e W5 ⟨r5, rfl, hr5, hc_, hk_⟩
          have hV := hU.step hgl hb hne h5 hc_ hk_
          clear hc_ hk_ hU hr5
          go_wp2_with fail
          refine (below_C 2 hV.1.1).mono ?_
          rintro e W6 ⟨r6, rfl, hr6, hc_, hk_⟩
          have hX := hV.step hgl hb hne h5 hc_ hk_
          clear hc_ hk_ hV hr6
          obtain ⟨D, k3, k4, kS, a0, a1, a2, a3, a4, a5, a6, a7, s, hs, k5⟩ := id hX
          have c5 := k5.cell 0 rfl
          have l5 := k5.lt
          obtain ⟨o2, ho2⟩ : ∃ q, (a0 == 2) = q := ⟨_, rfl⟩
          obtain ⟨o3, ho3⟩ : ∃ q, (a0 == 3) = q := ⟨_, rfl⟩
          obtain ⟨o4, ho4⟩ : ∃ q, (a0 == 4) = q := ⟨_, rfl⟩
          obtain ⟨o5, ho5⟩ : ∃ q, (a0 == 5) = q := ⟨_, rfl⟩
          obtain ⟨o6, ho6⟩ : ∃ q, (a0 == 6) = q := ⟨_, rfl⟩
          have l3 := k3.lt
          have d0 := k3.cell 0 rfl
          have d1 := k3.cell 1 rfl
          have d2 := k3.cell 2 rfl
          have d3 := k3.cell 3 rfl
          have g3 := k5.cell 3 rfl
          have g4 := k5.cell 4 rfl
          have e3 := k5.free 3
          have e4 := k5.free 4
          have n35 : w.heap.size ≠ b5 := by omega
          cases o2 with
          | true =>
            go_upto_region 36 with fail
            refine wp_at (CmdAt w0 w g b b5 tok lst) ((hX.set hgl hb hne h5 hws 3 (by decide) _).set hgl hb hne h5 hws 4 (by decide) _) ?_
            intro Wz hz
            obtain ⟨D, k3, k4, kS, a0, a1, a2, a3, a4, a5, a6, a7, s, hs, k5⟩ := id hz
            have q0 := k5.cell 0 rfl
            have r0 := k4.cell 0 rfl
            have f0 := k4.free 0
            have q1 := k5.cell 1 rfl
            have r1 := k4.cell 1 rfl
            have f1 := k4.free 1
            have q2 := k5.cell 2 rfl
            have r2 := k4.cell 2 rfl
            have f2 := k4.free 2
            have q3 := k5.cell 3 rfl
            have r3 := k4.cell 3 rfl
            have f3 := k4.free 3
            have q4 := k5.cell 4 rfl
            have r4 := k4.cell 4 rfl
            have f4 := k4.free 4
            have q5 := k5.cell 5 rfl
            have r5 := k4.cell 5 rfl
            have f5 := k4.free 5
            have q6 := k5.cell 6 rfl
            have r6 := k4.cell 6 rfl
            have f6 := k4.free 6
            have q7 := k5.cell 7 rfl
            have r7 := k4.cell 7 rfl
            have f7 := k4.free 7
            have q8 := k5.cell 8 rfl
            have r8 := k4.cell 8 rfl
            have f8 := k4.free 8
            have l5 := k5.lt
            have l4 := k4.lt
            have n45 : w.heap.size + 1 ≠ b5 := by omega
            go_wp2_with fail
            exact bodyPost_ret (results_cell_row rfl _ _ (w.heap.size + 1) 193 #[.int .i64 a0, .int .i64 a1, .int .i64 a2, .int .i64 a3, .int .i64 a4, .int .i64 a5, .int .i64 a6, .int .i64 a7, .string s] (0, 0) _ rfl (cmd_fill k4 a0 a1 a2 a3 a4 a5 a6 a7 s) Try.underlying193 rfl (by kernel_rfl)) rfl ⟨⟨a0, a1, a2, a3, a4, a5, a6, a7, s, rfl, hs⟩, dw_fill D hgl (Nat.le_succ _) hws a0 a1 a2 a3 a4 a5 a6 a7 s⟩
          | false =>
            cases o3 with
            | true =>
              go_upto_region 36 with fail
              refine wp_at (CmdAt w0 w g b b5 tok lst) ((hX.set hgl hb hne h5 hws 3 (by decide) _).set hgl hb hne h5 hws 4 (by decide) _) ?_
              intro Wz hz
              obtain ⟨D, k3, k4, kS, a0, a1, a2, a3, a4, a5, a6, a7, s, hs, k5⟩ := id hz
              have q0 := k5.cell 0 rfl
              have r0 := k4.cell 0 rfl
              have f0 := k4.free 0
              have q1 := k5.cell 1 rfl
              have r1 := k4.cell 1 rfl
              have f1 := k4.free 1
              have q2 := k5.cell 2 rfl
              have r2 := k4.cell 2 rfl
              have f2 := k4.free 2
              have q3 := k5.cell 3 rfl
              have r3 := k4.cell 3 rfl
              have f3 := k4.free 3
              have q4 := k5.cell 4 rfl
              have r4 := k4.cell 4 rfl
              have f4 := k4.free 4
              have q5 := k5.cell 5 rfl
              have r5 := k4.cell 5 rfl
              have f5 := k4.free 5
              have q6 := k5.cell 6 rfl
              have r6 := k4.cell 6 rfl
              have f6 := k4.free 6
              have q7 := k5.cell 7 rfl
              have r7 := k4.cell 7 rfl
              have f7 := k4.free 7
              have q8 := k5.cell 8 rfl
              have r8 := k4.cell 8 rfl
              have f8 := k4.free 8
              have l5 := k5.lt
              have l4 := k4.lt
              have n45 : w.heap.size + 1 ≠ b5 := by omega
              go_wp2_with fail
              exact bodyPost_ret (results_cell_row rfl _ _ (w.heap.size + 1) 193 #[.int .i64 a0, .int .i64 a1, .int .i64 a2, .int .i64 a3, .int .i64 a4, .int .i64 a5, .int .i64 a6, .int .i64 a7, .string s] (0, 0) _ rfl (cmd_fill k4 a0 a1 a2 a3 a4 a5 a6 a7 s) Try.underlying193 rfl (by kernel_rfl)) rfl ⟨⟨a0, a1, a2, a3, a4, a5, a6, a7, s, rfl, hs⟩, dw_fill D hgl (Nat.le_succ _) hws a0 a1 a2 a3 a4 a5 a6 a7 s⟩
            | false =>
              cases o4 with
              | true =>
                go_wp2_with fail
                refine calls_at (fun W => CmdAt w0 w g b b5 tok lst W ∧ Blk 9 W6.heap.size (([⟨#[97]⟩, ⟨#[98]⟩, ⟨#[104, 101, 108, 108, 111]⟩, ⟨#[120, 49]⟩, ⟨#[120, 50]⟩] : List ByteArray).map Value.string).toArray W) ⟨((hX.set hgl hb hne h5 hws 3 (by decide) _).alloc _), Blk.newE _ _ _ (by simp)⟩ ?_
                rintro W7 ⟨hY, kl⟩
                clear c5 l5 l3 d0 d1 d2 d3 g3 g4 e3 e4 D k3 k4 kS k5
                refine (pick_C _ 5 ([⟨#[97]⟩, ⟨#[98]⟩, ⟨#[104, 101, 108, 108, 111]⟩, ⟨#[120, 49]⟩, ⟨#[120, 50]⟩] : List ByteArray) (by decide) hY.1.1 (blk_strs _ (by decide) kl) (by decide) (by rintro ad ⟨⟩; show W6.heap.size ≠ g; have := hX.1.1.lt; omega)).mono ?_
                rintro e W8 ⟨r8, rfl, hm, hc8, hk8⟩
                have hZ := hY.step hgl hb hne h5 hc8 hk8
                have hr8 : r8.size ≤ 8 := by simp only [List.mem_cons, List.not_mem_nil, or_false] at hm; rcases hm with rfl | rfl | rfl | rfl | rfl <;> decide
                clear hY kl hc8 hk8 hm
                obtain ⟨D, k3, k4, kS, a0, a1, a2, a3, a4, a5, a6, a7, s, hs, k5⟩ := id hZ
                have c58 := k5.cell 8 rfl
                have f58 := k5.free 8
                have l5 := k5.lt
                go_upto_region 36 with fail
                refine wp_at (CmdAt w0 w g b b5 tok lst) (hZ.setS hgl hb hne h5 hws _ hr8) ?_
                intro Wz hz
                obtain ⟨D, k3, k4, kS, a0, a1, a2, a3, a4, a5, a6, a7, s, hs, k5⟩ := id hz
                have q0 := k5.cell 0 rfl
                have r0 := k4.cell 0 rfl
                have f0 := k4.free 0
                have q1 := k5.cell 1 rfl
                have r1 := k4.cell 1 rfl
                have f1 := k4.free 1
                have q2 := k5.cell 2 rfl
                have r2 := k4.cell 2 rfl
                have f2 := k4.free 2
                have q3 := k5.cell 3 rfl
                have r3 := k4.cell 3 rfl
                have f3 := k4.free 3
                have q4 := k5.cell 4 rfl
                have r4 := k4.cell 4 rfl
                have f4 := k4.free 4
                have q5 := k5.cell 5 rfl
                have r5 := k4.cell 5 rfl
                have f5 := k4.free 5
                have q6 := k5.cell 6 rfl
                have r6 := k4.cell 6 rfl
                have f6 := k4.free 6
                have q7 := k5.cell 7 rfl
                have r7 := k4.cell 7 rfl
                have f7 := k4.free 7
                have q8 := k5.cell 8 rfl
                have r8 := k4.cell 8 rfl
                have f8 := k4.free 8
                have l5 := k5.lt
                have l4 := k4.lt
                have n45 : w.heap.size + 1 ≠ b5 := by omega
                go_wp2_with fail
                exact bodyPost_ret (results_cell_row rfl _ _ (w.heap.size + 1) 193 #[.int .i64 a0, .int .i64 a1, .int .i64 a2, .int .i64 a3, .int .i64 a4, .int .i64 a5, .int .i64 a6, .int .i64 a7, .string s] (0, 0) _ rfl (cmd_fill k4 a0 a1 a2 a3 a4 a5 a6 a7 s) Try.underlying193 rfl (by kernel_rfl)) rfl ⟨⟨a0, a1, a2, a3, a4, a5, a6, a7, s, rfl, hs⟩, dw_fill D hgl (Nat.le_succ _) hws a0 a1 a2 a3 a4 a5 a6 a7 s⟩
              | false =>
                cases o5 with
                | true =>
                  go_wp2_with fail
                  refine calls_at (fun W => CmdAt w0 w g b b5 tok lst W) (hX.set hgl hb hne h5 hws 4 (by decide) _) ?_
                  intro W7 hY
                  clear c5 l5 l3 d0 d1 d2 d3 g3 g4 e3 e4 D k3 k4 kS k5
                  refine (below_C 3 hY.1.1).mono ?_
                  rintro e W8 ⟨r8, rfl, hr8, hc_, hk_⟩
                  have hZ := hY.step hgl hb hne h5 hc_ hk_
                  clear hc_ hk_ hY hr8
                  obtain ⟨D, k3, k4, kS, a0, a1, a2, a3, a4, a5, a6, a7, s, hs, k5⟩ := id hZ
                  have c55 := k5.cell 5 rfl
                  have f55 := k5.free 5
                  have l5 := k5.lt
                  go_upto_region 36 with fail
                  refine wp_at (CmdAt w0 w g b b5 tok lst) (hZ.set hgl hb hne h5 hws 5 (by decide) _) ?_
                  intro Wz hz
                  obtain ⟨D, k3, k4, kS, a0, a1, a2, a3, a4, a5, a6, a7, s, hs, k5⟩ := id hz
                  have q0 := k5.cell 0 rfl
                  have r0 := k4.cell 0 rfl
                  have f0 := k4.free 0
                  have q1 := k5.cell 1 rfl
                  have r1 := k4.cell 1 rfl
                  have f1 := k4.free 1
                  have q2 := k5.cell 2 rfl
                  have r2 := k4.cell 2 rfl
                  have f2 := k4.free 2
                  have q3 := k5.cell 3 rfl
                  have r3 := k4.cell 3 rfl
                  have f3 := k4.free 3
                  have q4 := k5.cell 4 rfl
                  have r4 := k4.cell 4 rfl
                  have f4 := k4.free 4
                  have q5 := k5.cell 5 rfl
                  have r5 := k4.cell 5 rfl
                  have f5 := k4.free 5
                  have q6 := k5.cell 6 rfl
                  have r6 := k4.cell 6 rfl
                  have f6 := k4.free 6
                  have q7 := k5.cell 7 rfl
                  have r7 := k4.cell 7 rfl
                  have f7 := k4.free 7
                  have q8 := k5.cell 8 rfl
                  have r8 := k4.cell 8 rfl
                  have f8 := k4.free 8
                  have l5 := k5.lt
                  have l4 := k4.lt
                  have n45 : w.heap.size + 1 ≠ b5 := by omega
                  go_wp2_with fail
                  exact bodyPost_ret (results_cell_row rfl _ _ (w.heap.size + 1) 193 #[.int .i64 a0, .int .i64 a1, .int .i64 a2, .int .i64 a3, .int .i64 a4, .int .i64 a5, .int .i64 a6, .int .i64 a7, .string s] (0, 0) _ rfl (cmd_fill k4 a0 a1 a2 a3 a4 a5 a6 a7 s) Try.underlying193 rfl (by kernel_rfl)) rfl ⟨⟨a0, a1, a2, a3, a4, a5, a6, a7, s, rfl, hs⟩, dw_fill D hgl (Nat.le_succ _) hws a0 a1 a2 a3 a4 a5 a6 a7 s⟩
                | false =>
                  cases o6 with
                  | true =>
                    go_wp2_with fail
                    refine calls_at (fun W => CmdAt w0 w g b b5 tok lst W) (hX.set hgl hb hne h5 hws 4 (by decide) _) ?_
                    intro W7 hY
                    clear c5 l5 l3 d0 d1 d2 d3 g3 g4 e3 e4 D k3 k4 kS k5
                    refine (lease_C _ _ _ _ _).mono ?_
                    rintro e W8 ⟨rfl, hb8⟩
                    have hZ := hY.below hb8
                    clear hY hb8
                    obtain ⟨D, k3, k4, kS, a0, a1, a2, a3, a4, a5, a6, a7, s, hs, k5⟩ := id hZ
                    have c56 := k5.cell 6 rfl
                    have f56 := k5.free 6
                    have l5 := k5.lt
                    have l3 := k3.lt
                    have d0 := k3.cell 0 rfl
                    have d1 := k3.cell 1 rfl
                    have d2 := k3.cell 2 rfl
                    have d3 := k3.cell 3 rfl
                    go_wp2_with fail
                    refine calls_at (fun W => CmdAt w0 w g b b5 tok lst W) (hZ.set hgl hb hne h5 hws 6 (by decide) _) ?_
                    intro W9 hY
                    clear c56 f56 l5 l3 d0 d1 d2 d3 D k3 k4 kS k5
                    refine (queue_C _ _ _ _ _).mono ?_
                    rintro e W10 ⟨rfl, hb10⟩
                    have hU := hY.below hb10
                    clear hY hb10 hZ
                    go_upto_region 32 with fail
                    obtain ⟨b9, hb9⟩ : ∃ b9, b9 = W10.heap.size := ⟨_, rfl⟩
                    refine wp_at (fun W => CmdAt w0 w g b b5 tok lst W ∧ Blk 127 b9 #[.int .i64 (wrap64 (1 + r5)), .int .i64 0, .slice none 0 0] W) ⟨hU.alloc _, Blk.newE _ _ W10 hb9⟩ ?_
                    rw [← hb9]
                    have n9 : g ≠ b9 := by have := hU.1.1.lt; omega
                    clear hU hb9
                    rintro Wa ⟨hY, k9⟩
                    go_cut [] from 118 to 127 (fun wx => CmdAt w0 w g b b5 tok lst wx)
                    case first =>
                      obtain ⟨D, k3, k4, kS, a0, a1, a2, a3, a4, a5, a6, a7, s, hs, k5⟩ := id hY
                      have q1 := k9.cell 1 rfl
                      have q2 := k9.cell 2 rfl
                      have l9 := k9.lt
                      have n9q : b9 ≠ g := fun e => n9 e.symm
                      refine wp_region_flowL (L := LD w0 g) (LD.drew w0 g) (LD.trans w0 g) [0, 5, 9] 137 (by kernel_rfl) (by rfl) (by kernel_rfl) (by kernel_rfl) (by kernel_rfl) (by kernel_rfl) ?_
                      iterate 10 (refine flowL_valE ?_; apply Exists.intro; refine ⟨fun A wq hLq hbq hdq => ?_, ?_⟩; focus (obtain ⟨hkc, hkf⟩ := kcell hLq.2; have hkz := hLq.2.1; (try simp [go_sem, baseF, deps, dep1, Region.binds] at hbq); (try simp [go_sem, baseF, deps, dep1, Region.binds] at hdq); go_simp; first | exact ⟨LD.refl _ _ _, rfl⟩ | (first | (go_at_call 105; refine (below_C _ (hLq.1 D.1)).mono ?_; rintro e w3 ⟨r3, rfl, ⟨hr0, hr1, -⟩, hc3, hk3⟩; obtain rfl : r3 = 0 := (by have h9 := hr1 (by decide); first | omega | (unfold wrap64 at h9; omega) | (rw [show IntKind.i64.wrap 1 = 1 from by decide] at h9; omega)); exact ⟨rfl, fun _ => hc3, hk3⟩))))
                      with_reducible refine flowL_last ?_
                      intro x wq hLq hall
                      simp only [allT] at hall
                      have hq := hY.step hgl hb hne h5 (hLq.1 D.1) hLq.2
                      clear hY
                      obtain ⟨D', k3', k4', kS', a0', a1', a2', a3', a4', a5', a6', a7', s', hs', k5'⟩ := id hq
                      have c57 := k5'.cell 7 rfl
                      have f57 := k5'.free 7
                      have l5 := k5'.lt
                      refine ⟨?_⟩
                      simp [frameOf, Act.put, List.dropLast, hall]
                      clear hall
                      go_simp
                      go_wp2_with fail
                      go_meet
                      exact hq.set hgl hb hne h5 hws 7 (by decide) _
                    case rest =>
                      have hV := hcut
                      clear hY k9 hcut
                      go_wp2_with fail
                      refine (once_C 8 hV.1.1).mono ?_
                      rintro e Wb ⟨qo, rfl, hc_, hk_⟩
                      have hS := hV.step hgl hb hne h5 hc_ hk_
                      clear hV hc_ hk_
                      cases qo with
                      | false =>
                        go_upto_region 36 with fail
                        refine wp_at (CmdAt w0 w g b b5 tok lst) (hS) ?_
                        intro Wz hz
                        obtain ⟨D, k3, k4, kS, a0, a1, a2, a3, a4, a5, a6, a7, s, hs, k5⟩ := id hz
                        have q0 := k5.cell 0 rfl
                        have r0 := k4.cell 0 rfl
                        have f0 := k4.free 0
                        have q1 := k5.cell 1 rfl
                        have r1 := k4.cell 1 rfl
                        have f1 := k4.free 1
                        have q2 := k5.cell 2 rfl
                        have r2 := k4.cell 2 rfl
                        have f2 := k4.free 2
                        have q3 := k5.cell 3 rfl
                        have r3 := k4.cell 3 rfl
                        have f3 := k4.free 3
                        have q4 := k5.cell 4 rfl
                        have r4 := k4.cell 4 rfl
                        have f4 := k4.free 4
                        have q5 := k5.cell 5 rfl
                        have r5 := k4.cell 5 rfl
                        have f5 := k4.free 5
                        have q6 := k5.cell 6 rfl
                        have r6 := k4.cell 6 rfl
                        have f6 := k4.free 6
                        have q7 := k5.cell 7 rfl
                        have r7 := k4.cell 7 rfl
                        have f7 := k4.free 7
                        have q8 := k5.cell 8 rfl
                        have r8 := k4.cell 8 rfl
                        have f8 := k4.free 8
                        have l5 := k5.lt
                        have l4 := k4.lt
                        have n45 : w.heap.size + 1 ≠ b5 := by omega
                        go_wp2_with fail
                        exact bodyPost_ret (results_cell_row rfl _ _ (w.heap.size + 1) 193 #[.int .i64 a0, .int .i64 a1, .int .i64 a2, .int .i64 a3, .int .i64 a4, .int .i64 a5, .int .i64 a6, .int .i64 a7, .string s] (0, 0) _ rfl (cmd_fill k4 a0 a1 a2 a3 a4 a5 a6 a7 s) Try.underlying193 rfl (by kernel_rfl)) rfl ⟨⟨a0, a1, a2, a3, a4, a5, a6, a7, s, rfl, hs⟩, dw_fill D hgl (Nat.le_succ _) hws a0 a1 a2 a3 a4 a5 a6 a7 s⟩
                      | true =>
                        go_wp2_with fail
                        refine (below_C 4 hS.1.1).mono ?_
                        rintro e Wc ⟨rc, rfl, hrc, hc_, hk_⟩
                        have hT := hS.step hgl hb hne h5 hc_ hk_
                        clear hc_ hk_ hS hrc
                        obtain ⟨D, k3, k4, kS, a0, a1, a2, a3, a4, a5, a6, a7, s, hs, k5⟩ := id hT
                        have c56 := k5.cell 6 rfl
                        have f56 := k5.free 6
                        have l5 := k5.lt
                        go_wp2_with fail
                        refine calls_at (fun W => CmdAt w0 w g b b5 tok lst W) (hT.set hgl hb hne h5 hws 6 (by decide) _) ?_
                        intro Wd hM
                        clear c56 f56 l5 D k3 k4 kS k5
                        refine (below_C 6 hM.1.1).mono ?_
                        rintro e We ⟨re, rfl, hre, hc_, hk_⟩
                        have hN := hM.step hgl hb hne h5 hc_ hk_
                        clear hc_ hk_ hM hre
                        obtain ⟨D, k3, k4, kS, a0, a1, a2, a3, a4, a5, a6, a7, s, hs, k5⟩ := id hN
                        have c57 := k5.cell 7 rfl
                        have f57 := k5.free 7
                        have l5 := k5.lt
                        go_upto_region 36 with fail
                        refine wp_at (CmdAt w0 w g b b5 tok lst) (hN.set hgl hb hne h5 hws 7 (by decide) _) ?_
                        intro Wz hz
                        obtain ⟨D, k3, k4, kS, a0, a1, a2, a3, a4, a5, a6, a7, s, hs, k5⟩ := id hz
                        have q0 := k5.cell 0 rfl
                        have r0 := k4.cell 0 rfl
                        have f0 := k4.free 0
                        have q1 := k5.cell 1 rfl
                        have r1 := k4.cell 1 rfl
                        have f1 := k4.free 1
                        have q2 := k5.cell 2 rfl
                        have r2 := k4.cell 2 rfl
                        have f2 := k4.free 2
                        have q3 := k5.cell 3 rfl
                        have r3 := k4.cell 3 rfl
                        have f3 := k4.free 3
                        have q4 := k5.cell 4 rfl
                        have r4 := k4.cell 4 rfl
                        have f4 := k4.free 4
                        have q5 := k5.cell 5 rfl
                        have r5 := k4.cell 5 rfl
                        have f5 := k4.free 5
                        have q6 := k5.cell 6 rfl
                        have r6 := k4.cell 6 rfl
                        have f6 := k4.free 6
                        have q7 := k5.cell 7 rfl
                        have r7 := k4.cell 7 rfl
                        have f7 := k4.free 7
                        have q8 := k5.cell 8 rfl
                        have r8 := k4.cell 8 rfl
                        have f8 := k4.free 8
                        have l5 := k5.lt
                        have l4 := k4.lt
                        have n45 : w.heap.size + 1 ≠ b5 := by omega
                        go_wp2_with fail
                        exact bodyPost_ret (results_cell_row rfl _ _ (w.heap.size + 1) 193 #[.int .i64 a0, .int .i64 a1, .int .i64 a2, .int .i64 a3, .int .i64 a4, .int .i64 a5, .int .i64 a6, .int .i64 a7, .string s] (0, 0) _ rfl (cmd_fill k4 a0 a1 a2 a3 a4 a5 a6 a7 s) Try.underlying193 rfl (by kernel_rfl)) rfl ⟨⟨a0, a1, a2, a3, a4, a5, a6, a7, s, rfl, hs⟩, dw_fill D hgl (Nat.le_succ _) hws a0 a1 a2 a3 a4 a5 a6 a7 s⟩
                  | false =>
                    go_upto_region 36 with fail
                    refine wp_at (CmdAt w0 w g b b5 tok lst) (hX) ?_
                    intro Wz hz
                    obtain ⟨D, k3, k4, kS, a0, a1, a2, a3, a4, a5, a6, a7, s, hs, k5⟩ := id hz
                    have q0 := k5.cell 0 rfl
                    have r0 := k4.cell 0 rfl
                    have f0 := k4.free 0
                    have q1 := k5.cell 1 rfl
                    have r1 := k4.cell 1 rfl
                    have f1 := k4.free 1
                    have q2 := k5.cell 2 rfl
                    have r2 := k4.cell 2 rfl
                    have f2 := k4.free 2
                    have q3 := k5.cell 3 rfl
                    have r3 := k4.cell 3 rfl
                    have f3 := k4.free 3
                    have q4 := k5.cell 4 rfl
                    have r4 := k4.cell 4 rfl
                    have f4 := k4.free 4
                    have q5 := k5.cell 5 rfl
                    have r5 := k4.cell 5 rfl
                    have f5 := k4.free 5
                    have q6 := k5.cell 6 rfl
                    have r6 := k4.cell 6 rfl
                    have f6 := k4.free 6
                    have q7 := k5.cell 7 rfl
                    have r7 := k4.cell 7 rfl
                    have f7 := k4.free 7
                    have q8 := k5.cell 8 rfl
                    have r8 := k4.cell 8 rfl
                    have f8 := k4.free 8
                    have l5 := k5.lt
                    have l4 := k4.lt
                    have n45 : w.heap.size + 1 ≠ b5 := by omega
                    go_wp2_with fail
                    exact bodyPost_ret (results_cell_row rfl _ _ (w.heap.size + 1) 193 #[.int .i64 a0, .int .i64 a1, .int .i64 a2, .int .i64 a3, .int .i64 a4, .int .i64 a5, .int .i64 a6, .int .i64 a7, .string s] (0, 0) _ rfl (cmd_fill k4 a0 a1 a2 a3 a4 a5 a6 a7 s) Try.underlying193 rfl (by kernel_rfl)) rfl ⟨⟨a0, a1, a2, a3, a4, a5, a6, a7, s, rfl, hs⟩, dw_fill D hgl (Nat.le_succ _) hws a0 a1 a2 a3 a4 a5 a6 a7 s⟩
end Go.Proofs.Ytdjikjmjajlgcaa.PFnPuts
end

/-! ### YtdjikjmjajlgcaaBytes -/
section
namespace Go.Proofs.Ytdjikjmjajlgcaa
open Go.RowKit Go.Proofs.YtdjikjmjajlgcaaW.PrintWords

/-- The bytes of a number, seven bits a byte. -/
def varN (n : Nat) : List Int := if h : n ≤ 127 then [(n : Int)] else ((n % 128 + 128 : Nat) : Int) :: varN (n / 128)
termination_by n
decreasing_by omega
/-- The text of a number. -/
def varS (n : Int) : ByteArray := strOfNums (varN n.toNat)

theorem strOfNums_append (a b : List Int) : strOfNums (a ++ b) = strOfNums a ++ strOfNums b := by
  apply ByteArray.ext
  simp [strOfNums, ByteArray.data_append]

theorem l01Var_l0 : ∀ (k : Nat) (n : Nat) (out : List Int), 1 ≤ k → n < 128 ^ k → n ≤ 9223372036854775807 → out.length + k < 140737488355328 →
    PFnEntries.spec_l01Var.l0 k (n : Int) out = some (strOfNums (out ++ varN n))
  | 0, _, _, h, _, _, _ => by omega
  | k + 1, n, out, _, hn, hm, ho => by
    simp only [PFnEntries.spec_l01Var.l0]
    rw [varN]
    by_cases h : n ≤ 127
    · rw [if_neg (by omega), if_pos (by omega), dif_pos h]
      have : ((n : Int) % 256) = (n : Int) := by omega
      rw [this]
    · have hk : 1 ≤ k := by
        rcases Nat.eq_zero_or_pos k with rfl | hk
        · simp at hn; omega
        · exact hk
      have hlt : n / 128 < 128 ^ k := by rw [Nat.pow_succ] at hn; omega
      have ih := l01Var_l0 k (n / 128) (out ++ [((n % 128 + 128 : Nat) : Int)]) hk hlt (by omega) (by rw [List.length_append]; simp; omega)
      rw [if_pos (by omega), if_pos (by omega), dif_neg h]
      have e1 : wrap64 (Int.tdiv (n : Int) 128) = ((n / 128 : Nat) : Int) := by
        rw [Int.tdiv_eq_ediv_of_nonneg (by omega)]; unfold wrap64; omega
      have e2 : (wrap64 ((Int.tmod (n : Int) 128) + 128)) % 256 = ((n % 128 + 128 : Nat) : Int) := by
        rw [Int.tmod_eq_emod_of_nonneg (by omega)]; unfold wrap64; omega
      rw [e1, e2, ih, List.append_assoc]
      rfl

theorem and127 (n : Nat) (h : n < 9223372036854775808) : bits .and .i64 (n : Int) 127 = ((n % 128 : Nat) : Int) := by
  have := bits_mask .i64 63 (by decide) (by intro m h0 h1; rw [IntKind.wrap_i64]; omega) 7 (by decide) (n : Int) (by omega) (by omega)
  simpa using this
theorem or128 (n : Nat) (h : n < 128) : bits .or .i64 (n : Int) 128 = ((n + 128 : Nat) : Int) := by
  have hx : ∀ m : Fin 128, bits .or .i64 ((m.1 : Nat) : Int) 128 = ((m.1 + 128 : Nat) : Int) := by decide +kernel
  exact hx ⟨n, h⟩

theorem VarText_l0 : ∀ (k : Nat) (n : Nat) (out : List Int), 1 ≤ k → n < 128 ^ k → n ≤ 9223372036854775807 → out.length + k < 140737488355328 →
    PFnExactEncode.impl_VarText.l0 k (n : Int) out = some (strOfNums (out ++ varN n), true)
  | 0, _, _, h, _, _, _ => by omega
  | k + 1, n, out, _, hn, hm, ho => by
    simp only [PFnExactEncode.impl_VarText.l0]
    rw [varN]
    by_cases h : n ≤ 127
    · rw [if_neg (by omega), if_pos (by omega), dif_pos h]
      have : ((n : Int) % 256) = (n : Int) := by omega
      rw [this]
    · have hk : 1 ≤ k := by
        rcases Nat.eq_zero_or_pos k with rfl | hk
        · simp at hn; omega
        · exact hk
      have hlt : n / 128 < 128 ^ k := by rw [Nat.pow_succ] at hn; omega
      have ih := VarText_l0 k (n / 128) (out ++ [((n % 128 + 128 : Nat) : Int)]) hk hlt (by omega) (by rw [List.length_append]; simp; omega)
      rw [if_pos (by omega), if_pos (by omega), dif_neg h]
      have e1 : (n : Int) / 128 = ((n / 128 : Nat) : Int) := by omega
      have e2 : (bits .or .i64 (bits .and .i64 (n : Int) 127) 128) % 256 = ((n % 128 + 128 : Nat) : Int) := by
        rw [and127 n (by omega), or128 _ (by omega)]; omega
      rw [e1, e2, ih, List.append_assoc]
      rfl

theorem spec_l01Var (n : Int) (w : World) (h0 : 0 ≤ n) (h1 : n ≤ 1000000000) :
    Calls Try.prog 55 #[.int .i64 n] w fun e w' => e = .returned (.string (varS n)) ∧ Below w.heap.size w w' := by
  refine PFnEntries.spec_l01Var.calls 6 n (varS n) w ?_
  obtain ⟨m, rfl⟩ := Int.eq_ofNat_of_zero_le h0
  have := l01Var_l0 6 m [] (by omega) (by omega) (by omega) (by simp)
  simpa [PFnEntries.spec_l01Var.f, varS] using this

theorem impl_VarText (n : Int) (w : World) (h0 : 0 ≤ n) (h1 : n ≤ 1000000000) :
    Calls Try.prog 131 #[.int .i64 n] w fun e w' => e = .returned (.tuple #[.string (varS n), .bool true]) ∧ Below w.heap.size w w' := by
  refine PFnExactEncode.impl_VarText.calls 6 n (varS n) true w ?_
  obtain ⟨m, rfl⟩ := Int.eq_ofNat_of_zero_le h0
  have := VarText_l0 6 m [] (by omega) (by omega) (by omega) (by simp)
  have hi : PFnExactEncode.impl_in.f (m : Int) 0 1000000000 = some true := by
    unfold PFnExactEncode.impl_in.f
    rw [if_pos (by omega)]
    simp; omega
  unfold PFnExactEncode.impl_VarText.f
  rw [hi]
  simpa [varS] using this

set_option maxHeartbeats 400000 in
theorem impl_varOf (n : Int) (w : World) (h0 : 0 ≤ n) (h1 : n ≤ 1000000000) :
    Calls Try.prog 62 #[.int .i64 n] w fun e w' => e = .returned (.string (varS n)) ∧ Below w.heap.size w w' := by
  go_enter Try.func62, Try.ntmps62
  go_wp2_with (first | (go_at_call 131; refine (impl_VarText _ _ h0 h1).mono ?_; rintro e w' ⟨rfl, hb⟩))
  go_ret
  exact ⟨rfl, hb⟩

theorem varN_length : ∀ (n : Nat), n ≤ 1000000000 → (varN n).length ≤ 5 := by
  have step : ∀ (k n : Nat), n < 128 ^ (k + 1) → (varN n).length ≤ k + 1 := by
    intro k
    induction k with
    | zero => intro n h; rw [varN, dif_pos (by omega)]; simp
    | succ k ih =>
      intro n h
      rw [varN]
      split
      · simp
      · have := ih (n / 128) (by rw [Nat.pow_succ] at h; omega)
        simp; omega
  intro n h
  exact step 4 n (by omega)
theorem varS_size (n : Int) (h0 : 0 ≤ n) (h1 : n ≤ 1000000000) : (varS n).size ≤ 5 := by
  unfold varS
  rw [strOfNums_size]
  exact varN_length _ (by omega)

/-- A text with its length ahead. -/
def shortS (s : ByteArray) : ByteArray := varS s.size ++ s

set_option maxHeartbeats 400000 in
theorem spec_l05Short (s : ByteArray) (w : World) (h1 : s.size ≤ 1000000000) :
    Calls Try.prog 57 #[.string s] w fun e w' => e = .returned (.string (shortS s)) ∧ Below w.heap.size w w' := by
  have hz := varS_size s.size (by omega) (by omega)
  go_enter Try.func57, Try.ntmps57
  go_wp2_with (first | (go_at_call 55; refine (spec_l01Var _ _ (by omega) (by omega)).mono ?_; rintro e w' ⟨rfl, hb⟩))
  go_ret
  exact ⟨rfl, hb⟩

set_option maxHeartbeats 400000 in
theorem impl_shortOf (s : ByteArray) (w : World) (h1 : s.size ≤ 1000000000) :
    Calls Try.prog 64 #[.string s] w fun e w' => e = .returned (.string (shortS s)) ∧ Below w.heap.size w w' := by
  have hz := varS_size s.size (by omega) (by omega)
  go_enter Try.func64, Try.ntmps64
  go_wp2_with (first | (go_at_call 62; refine (impl_varOf _ _ (by omega) (by omega)).mono ?_; rintro e w' ⟨rfl, hb⟩))
  go_ret
  exact ⟨rfl, hb⟩

theorem oneByte_l0 : ∀ (d k : Nat) (out xs : List Int) (i : Nat), i ≤ xs.length → xs.length - i = d → d < k → out.length + d < 140737488355328 → xs.length ≤ 140737488355328 →
    PFnExactEncode.impl_oneByte.l0 k out xs (xs.length : Int) (i : Int) = some (strOfNums (out ++ (xs.drop i).map (· % 256))) := by
  intro d
  induction d with
  | zero =>
    intro k out xs i h0 hd hk _ _
    obtain ⟨k, rfl⟩ : ∃ m, k = m + 1 := ⟨k - 1, by omega⟩
    simp only [PFnExactEncode.impl_oneByte.l0]
    rw [if_neg (by omega), List.drop_of_length_le (by omega)]
    simp
  | succ d ih =>
    intro k out xs i h0 hd hk ho hl
    obtain ⟨k, rfl⟩ : ∃ m, k = m + 1 := ⟨k - 1, by omega⟩
    simp only [PFnExactEncode.impl_oneByte.l0]
    have hi : i < xs.length := by omega
    have e1 : rd xs (i : Int) = xs[i] := by simp [rd, hi]
    have e2 : wrap64 ((i : Int) + 1) = ((i + 1 : Nat) : Int) := by unfold wrap64; omega
    rw [if_pos (by omega), if_pos (by omega), if_pos (by omega), if_pos (by omega), e1, e2, ih k (out ++ [xs[i] % 256]) xs (i + 1) (by omega) (by omega) (by omega) (by
      rw [List.length_append, List.length_singleton]
      omega) hl]
    rw [List.drop_eq_getElem_cons hi, List.map_cons, List.append_assoc]
    rfl

theorem impl_oneByte (A : Option Addr) (c : Nat) (xs : List Int) (w : World) (hr : Kd.C (Kd.int .i64) w A xs.length xs) (hc : xs.length ≤ c) (hl : xs.length < 1000000000) :
    Calls Try.prog 61 #[.slice A xs.length c] w fun e w' => e = .returned (.string (strOfNums (xs.map (· % 256)))) ∧ Below w.heap.size w w' := by
  refine PFnExactEncode.impl_oneByte.calls (xs.length + 1) A c xs _ w hr hc ?_
  have := oneByte_l0 xs.length (xs.length + 1) [] xs 0 (by omega) (by omega) (by omega) (by simp; omega) (by omega)
  simpa [PFnExactEncode.impl_oneByte.f] using this
theorem row_one {W : World} {g : Nat} {x : Int} (h : W.cell? ⟨g, 0, none⟩ = some (.int .i64 x)) : Kd.C (Kd.int .i64) W (some ⟨g, 0, none⟩) 1 [x] := by
  refine ⟨rfl, by omega, fun _ => ⟨_, rfl, fun j p hj => ?_⟩⟩
  rcases j with _ | j
  · obtain rfl : x = p := by simpa using hj
    refine ⟨[.int .i64 x], rfl, rfl, fun i u hu => ?_⟩
    rcases i with _ | i
    · obtain rfl : Value.int .i64 x = u := by simpa using hu
      exact h
    · simp at hu
  · simp at hj
theorem row_three {W : World} {g : Nat} {x y z : Int} (h0 : W.cell? ⟨g, 0, none⟩ = some (.int .i64 x)) (h1 : W.cell? ⟨g, 1, none⟩ = some (.int .i64 y)) (h2 : W.cell? ⟨g, 2, none⟩ = some (.int .i64 z)) :
    Kd.C (Kd.int .i64) W (some ⟨g, 0, none⟩) 3 [x, y, z] := by
  refine ⟨rfl, by omega, fun _ => ⟨_, rfl, fun j p hj => ?_⟩⟩
  have step : ∀ (v : Int), W.cell? ⟨g, j, none⟩ = some (.int .i64 v) → p = v → ∃ c : List Value, c.length = (Kd.int .i64).sz ∧ (Kd.int .i64).K W p c ∧ ∀ i u, c[i]? = some u → W.cell? (Addr.add ⟨g, 0, none⟩ (j * (Kd.int .i64).sz + i)) = some u := by
    rintro v hv rfl
    refine ⟨[.int .i64 p], rfl, rfl, fun i u hu => ?_⟩
    rcases i with _ | i
    · obtain rfl : Value.int .i64 p = u := by simpa using hu
      have : Addr.add ⟨g, 0, none⟩ (j * (Kd.int .i64).sz + 0) = ⟨g, j, none⟩ := by
        show Addr.add ⟨g, 0, none⟩ (j * 1 + 0) = ⟨g, j, none⟩
        unfold Addr.add
        rcases j with _ | j <;> simp
      rw [this]
      exact hv
    · simp at hu
  rcases j with _ | _ | _ | j
  · exact step x h0 (by simpa using hj.symm)
  · exact step y h1 (by simpa using hj.symm)
  · exact step z h2 (by simpa using hj.symm)
  · simp at hj
theorem impl_oneByte1 (g : Nat) (x : Int) (w : World) (h : w.cell? ⟨g, 0, none⟩ = some (.int .i64 x)) :
    Calls Try.prog 61 #[.slice (some ⟨g, 0, none⟩) 1 1] w fun e w' => e = .returned (.string (strOfNums [x % 256])) ∧ Below w.heap.size w w' :=
  impl_oneByte _ 1 [x] w (row_one h) (by simp) (by simp)
theorem impl_oneByte3 (g : Nat) (x y z : Int) (w : World) (h0 : w.cell? ⟨g, 0, none⟩ = some (.int .i64 x)) (h1 : w.cell? ⟨g, 1, none⟩ = some (.int .i64 y)) (h2 : w.cell? ⟨g, 2, none⟩ = some (.int .i64 z)) :
    Calls Try.prog 61 #[.slice (some ⟨g, 0, none⟩) 3 3] w fun e w' => e = .returned (.string (strOfNums [x % 256, y % 256, z % 256])) ∧ Below w.heap.size w w' :=
  impl_oneByte _ 3 [x, y, z] w (row_three h0 h1 h2) (by simp) (by simp)
end Go.Proofs.Ytdjikjmjajlgcaa
end

/-! ### YtdjikjmjajlgcaaByteS -/
section
namespace Go.Proofs.Ytdjikjmjajlgcaa
open Go.RowKit Go.Proofs.YtdjikjmjajlgcaaW.PrintWords

/-- A number in one byte. -/
def byteS (n : Int) : ByteArray := strOfNums [n % 256]
theorem byteS_size (n : Int) : (byteS n).size ≤ 1 := by simp [byteS, strOfNums_size]
end Go.Proofs.Ytdjikjmjajlgcaa
end

/-! ### YtdjikjmjajlgcaaCmdOk -/
section
namespace Go.Proofs.Ytdjikjmjajlgcaa
open Go.RowKit Go.Proofs.YtdjikjmjajlgcaaW.PrintWords

theorem eqf_cmd (d : Nat) (w : World) (x0 y0 x1 y1 x2 y2 x3 y3 x4 y4 x5 y5 x6 y6 x7 y7 : Int) (x8 y8 : ByteArray) :
    (Op.equalIn (d + 2) 193 (.agg #[.int .i64 x0, .int .i64 x1, .int .i64 x2, .int .i64 x3, .int .i64 x4, .int .i64 x5, .int .i64 x6, .int .i64 x7, .string x8]) (.agg #[.int .i64 y0, .int .i64 y1, .int .i64 y2, .int .i64 y3, .int .i64 y4, .int .i64 y5, .int .i64 y6, .int .i64 y7, .string y8])).run Try.prog w = .ok (x0 == y0 && (x1 == y1 && (x2 == y2 && (x3 == y3 && (x4 == y4 && (x5 == y5 && (x6 == y6 && (x7 == y7 && (x8.toList == y8.toList))))))))) w := by
  refine eqA_of Try.underlying193 (by kernel_rfl) ?_
  iterate 8 (refine eqf_cons (by rfl) (by go_simp; rfl) (by go_simp; rfl) (by go_simp) ?_)
  exact eqf_last (by rfl) (by go_simp; rfl) (by go_simp; rfl) (by go_simp)
attribute [local go_sem high] eqf_cmd

/-- What a right command is. -/
def cmdOk (op tok seq topic dev edge ep up : Int) (tx : ByteArray) : Bool :=
  inB tok 0 1000000 && inB seq 0 1000000 &&
  (if op = 1 then tok == 0 && seq == 0 && topic == 0 && dev == 0 && edge == 0 && ep == 0 && up == 0 && tx.toList == []
   else if op = 2 ∨ op = 3 then inB topic 1 4 && inB dev 1 4 && edge == 0 && ep == 0 && up == 0 && tx.toList == []
   else if op = 4 then inB topic 1 4 && decide ((tx.size : Int) ≤ 12) && dev == 0 && edge == 0 && ep == 0 && up == 0
   else if op = 5 then inB dev 1 4 && inB edge 1 3 && topic == 0 && ep == 0 && up == 0 && tx.toList == []
   else if op = 6 then inB dev 1 4 && inB ep 0 1000000 && inB up 0 1000000 && topic == 0 && edge == 0 && tx.toList == []
   else if op = 7 then topic == 0 && dev == 0 && edge == 0 && ep == 0 && up == 0 && tx.toList == []
   else false)

theorem cmdOk_out {op tok seq topic dev edge ep up : Int} {tx : ByteArray} (h : ¬ inB op 1 7 = true) : cmdOk op tok seq topic dev edge ep up tx = false := by
  rw [inB_iff] at h
  unfold cmdOk
  rw [if_neg (by omega), if_neg (by omega), if_neg (by omega), if_neg (by omega), if_neg (by omega), if_neg (by omega), Bool.and_false]
theorem op_seven {op : Int} (h : inB op 1 7 = true) (h1 : ¬ op = 1) (h2 : ¬ op = 2) (h3 : ¬ op = 3) (h4 : ¬ op = 4) (h5 : ¬ op = 5) (h6 : ¬ op = 6) : op = 7 := by
  rw [inB_iff] at h
  omega

set_option maxHeartbeats 4000000 in
set_option maxRecDepth 100000 in
theorem spec_CommandOk (op tok seq topic dev edge ep up : Int) (tx : ByteArray) (w : World) :
    Calls Try.prog 169 #[.agg #[.int .i64 op, .int .i64 tok, .int .i64 seq, .int .i64 topic, .int .i64 dev, .int .i64 edge, .int .i64 ep, .int .i64 up, .string tx]] w fun e w' =>
      e = .returned (.bool (cmdOk op tok seq topic dev edge ep up tx)) ∧ Below w.heap.size w w' := by
  by_cases h17 : inB op 1 7 = true
  · obtain ⟨hlo, hhi⟩ := inB_iff.1 h17
    go_enter Try.func169, Try.ntmps169
    go_wp2_with (first | (go_at_call 95; refine (spec_l01In _ _ _ _).mono ?_; rintro e w' ⟨rfl, rfl⟩))
    all_goals (try (go_region))
    all_goals (try go_wp2_with (first | (go_at_call 95; refine (spec_l01In _ _ _ _).mono ?_; rintro e w' ⟨rfl, rfl⟩)))
    all_goals
      go_ret
      refine ⟨?_, by repeat (first | exact Below.refl _ _ | apply bl_alloc | apply bl_drewN | apply bl_drew | refine bl_set ?_ (by simp) | refine bl_then ?_ (by assumption))⟩
      first
        | (simp_all [cmdOk, Bool.and_assoc]; done)
        | (simp_all [cmdOk, Bool.and_assoc]; omega)
        | (simp_all [cmdOk, Bool.and_assoc]; intros; omega)
  · have hz : cmdOk op tok seq topic dev edge ep up tx = false := cmdOk_out h17
    rw [hz]
    clear hz
    have h17 : inB op 1 7 = false := by simpa using h17
    go_enter Try.func169, Try.ntmps169
    go_wp2_with (first | (go_at_call 95; refine (spec_l01In _ _ _ _).mono ?_; rintro e w' ⟨rfl, rfl⟩))
    all_goals
      go_ret
      refine ⟨?_, by repeat (first | exact Below.refl _ _ | apply bl_alloc | apply bl_drewN | apply bl_drew | refine bl_set ?_ (by simp) | refine bl_then ?_ (by assumption))⟩
      first | rfl | (simp_all; done)
end Go.Proofs.Ytdjikjmjajlgcaa
end

/-! ### YtdjikjmjajlgcaaCmdText -/
section
namespace Go.Proofs.Ytdjikjmjajlgcaa
open Go.RowKit Go.Proofs.YtdjikjmjajlgcaaW.PrintWords

/-- The text of a command. -/
def cmdS (op tok seq topic dev edge ep up : Int) (tx : ByteArray) : ByteArray :=
  byteS op ++ varS tok ++ varS seq ++ strOfNums [topic % 256, dev % 256, edge % 256] ++ varS ep ++ varS up ++ shortS tx

theorem cmdOk_range {op tok seq topic dev edge ep up : Int} {tx : ByteArray} (h : cmdOk op tok seq topic dev edge ep up tx = true) :
    (0 ≤ tok ∧ tok ≤ 1000000) ∧ (0 ≤ seq ∧ seq ≤ 1000000) ∧ (0 ≤ ep ∧ ep ≤ 1000000) ∧ (0 ≤ up ∧ up ≤ 1000000) ∧ tx.size ≤ 12 := by
  have hz : tx.toList = [] → tx.size = 0 := by
    intro h
    have h2 : tx.toList.length = 0 := by rw [h]; rfl
    rw [ByteArray.toList_eq] at h2
    simpa using h2
  simp only [cmdOk, Bool.and_eq_true, inB_iff] at h
  obtain ⟨⟨h1, h2⟩, h3⟩ := h
  refine ⟨h1, h2, ?_⟩
  by_cases c1 : op = 1
  · simp [c1] at h3; obtain ⟨h3, h4⟩ := h3; have := hz h4; omega
  rw [if_neg c1] at h3
  by_cases c2 : op = 2 ∨ op = 3
  · rw [if_pos c2] at h3; simp [inB] at h3; obtain ⟨h3, h4⟩ := h3; have := hz h4; omega
  rw [if_neg c2] at h3
  by_cases c4 : op = 4
  · rw [if_pos c4] at h3; simp [inB] at h3; omega
  rw [if_neg c4] at h3
  by_cases c5 : op = 5
  · rw [if_pos c5] at h3; simp [inB] at h3; obtain ⟨h3, h4⟩ := h3; have := hz h4; omega
  rw [if_neg c5] at h3
  by_cases c6 : op = 6
  · rw [if_pos c6] at h3; simp [inB] at h3; obtain ⟨h3, h4⟩ := h3; have := hz h4; omega
  rw [if_neg c6] at h3
  by_cases c7 : op = 7
  · rw [if_pos c7] at h3; simp at h3; obtain ⟨h3, h4⟩ := h3; have := hz h4; omega
  rw [if_neg c7] at h3
  cases h3

set_option maxHeartbeats 400000 in
set_option maxRecDepth 100000 in
theorem spec_l10Byte (n : Int) (w : World) :
    Calls Try.prog 170 #[.int .i64 n] w fun e w' => e = .returned (.string (byteS n)) ∧ Below w.heap.size w w' := by
  refine PFnEntries.spec_l10Byte.calls n _ w ?_
  rfl

theorem three_bytes (a b c : Int) (x : ByteArray) : x ++ byteS a ++ byteS b ++ byteS c = x ++ strOfNums [a % 256, b % 256, c % 256] := by
  rw [ByteArray.append_assoc, ByteArray.append_assoc]
  unfold byteS
  rw [← strOfNums_append, ← strOfNums_append]
  rfl

attribute [local go_sem] cell_grow ByteArray.size_append

set_option maxHeartbeats 2000000 in
set_option maxRecDepth 100000 in
theorem spec_CommandText (op tok seq topic dev edge ep up : Int) (tx : ByteArray) (w : World) :
    Calls Try.prog 149 #[.agg #[.int .i64 op, .int .i64 tok, .int .i64 seq, .int .i64 topic, .int .i64 dev, .int .i64 edge, .int .i64 ep, .int .i64 up, .string tx]] w fun e w' =>
      e = .returned (.tuple #[.string (if cmdOk op tok seq topic dev edge ep up tx then cmdS op tok seq topic dev edge ep up tx else ⟨#[]⟩), .bool (cmdOk op tok seq topic dev edge ep up tx)]) ∧ Below w.heap.size w w' := by
  cases hk : cmdOk op tok seq topic dev edge ep up tx with
  | false =>
    go_enter Try.func149, Try.ntmps149
    go_wp2_with (first | (go_at_call 169; refine (spec_CommandOk _ _ _ _ _ _ _ _ _ _).mono ?_; rintro e w' ⟨rfl, hb⟩; obtain ⟨hc, hf⟩ := bcell hb))
    go_ret2
    exact ⟨rfl, (by repeat (first | exact Below.refl _ _ | apply bl_alloc | apply bl_drewN | apply bl_drew | refine bl_set ?_ (by simp) | refine bl_then ?_ (by assumption)))⟩
  | true =>
    have hr := cmdOk_range hk
    have s0 := byteS_size op
    have s1 := varS_size tok (by omega) (by omega)
    have s2 := varS_size seq (by omega) (by omega)
    have s3 := byteS_size topic
    have s4 := byteS_size dev
    have s5 := byteS_size edge
    have s6 := varS_size ep (by omega) (by omega)
    have s7 := varS_size up (by omega) (by omega)
    have s8 := varS_size tx.size (by omega) (by omega)
    have s9 : (shortS tx).size ≤ 17 := by unfold shortS; rw [ByteArray.size_append]; omega
    have he : cmdS op tok seq topic dev edge ep up tx = byteS op ++ varS tok ++ varS seq ++ byteS topic ++ byteS dev ++ byteS edge ++ varS ep ++ varS up ++ shortS tx := by
      unfold cmdS; rw [three_bytes]
    simp only [if_true]
    rw [he]
    clear he
    go_enter Try.func149, Try.ntmps149
    go_wp2_with (first | (go_at_call 169; refine (spec_CommandOk _ _ _ _ _ _ _ _ _ _).mono ?_; rintro e w' ⟨rfl, hb⟩; obtain ⟨hc, hf⟩ := bcell hb; have hz : w.heap.size < w'.heap.size := (by have := hb.size; simp at this ⊢; omega)))
    refine wp_region_quiet_below (by kernel_rfl) (by kernel_rfl) ?_
    repeat (first | quiet_step (first | (go_at_call 170; exact Calls.regrown_of (spec_l10Byte _ _)) | (go_at_call 55; exact Calls.regrown_of (spec_l01Var _ _ (by omega) (by omega))) | (go_at_call 57; exact Calls.regrown_of (spec_l05Short _ _ (by omega)))) | go_big_quiet_step (fail))
    refine wpQuiet_nil ?_
    intro W2 hw'
    have hbq := bl_regrown hw'
    clear hw'
    obtain ⟨hcq, hfq⟩ := bcell hbq
    go_wp2
    go_ret2
    exact ⟨rfl, (by repeat (first | exact Below.refl _ _ | apply bl_alloc | apply bl_drewN | apply bl_drew | refine bl_set ?_ (by simp) | refine bl_then ?_ (by assumption)))⟩

end Go.Proofs.Ytdjikjmjajlgcaa
end

/-! ### YtdjikjmjajlgcaaConfDef -/
section
namespace Go.Proofs.Ytdjikjmjajlgcaa
open Go.RowKit Go.Proofs.YtdjikjmjajlgcaaW.PrintWords
set_option linter.unusedSimpArgs false
set_option linter.unusedVariables false

/-! What a right conf, a conf read, a right entry are. (own) -/
/-- From one place on: each is a node, and more than the one ahead. -/
def rises (xs : List Int) (i : Nat) : Nat → Bool
  | 0 => true
  | n + 1 => decide (1 ≤ rd xs i ∧ rd xs i ≤ 4) && (decide (i = 0) || decide (rd xs ((i : Int) - 1) < rd xs i)) && rises xs (i + 1) n
def confOk (xs : List Int) : Bool := rises xs 0 xs.length && decide (1 ≤ xs.length)

theorem rises_short (xs : List Int) : ∀ (n i : Nat), rises xs i n = true → (i = 0 ∨ (i : Int) ≤ rd xs ((i : Int) - 1)) → 0 < n → i + n ≤ 4
  | 0, _, _, _, h => by omega
  | n + 1, i, h, hi, _ => by
    simp only [rises, Bool.and_eq_true, Bool.or_eq_true, decide_eq_true_eq] at h
    obtain ⟨⟨h1, h2⟩, h3⟩ := h
    have hx : (i : Int) + 1 ≤ rd xs i := by
      rcases hi with rfl | hi
      · simpa using h1.1
      · rcases h2 with rfl | h2
        · simpa using h1.1
        · omega
    rcases Nat.eq_zero_or_pos n with rfl | hn
    · omega
    · have := rises_short xs n (i + 1) h3 (.inr (by rw [show ((i + 1 : Nat) : Int) - 1 = i from by omega]; omega)) hn
      omega
theorem confOk_short {xs : List Int} (h : confOk xs = true) : 1 ≤ xs.length ∧ xs.length ≤ 4 := by
  simp only [confOk, Bool.and_eq_true, decide_eq_true_eq] at h
  have := rises_short xs _ 0 h.1 (.inl rfl) (by omega)
  omega

/-- A text's bytes. -/
def bytesFrom (s : ByteArray) (i : Nat) : Nat → List Int
  | 0 => []
  | n + 1 => bt s (i : Int) :: bytesFrom s (i + 1) n
theorem bytesFrom_length (s : ByteArray) : ∀ n i, (bytesFrom s i n).length = n
  | 0, _ => rfl
  | n + 1, i => by simp [bytesFrom, bytesFrom_length s n]
theorem bytesFrom_snoc (s : ByteArray) : ∀ (n i : Nat), bytesFrom s i (n + 1) = bytesFrom s i n ++ [bt s ((i + n : Nat) : Int)]
  | 0, i => by simp [bytesFrom]
  | n + 1, i => by
    have := bytesFrom_snoc s n (i + 1)
    rw [bytesFrom, this, bytesFrom, List.cons_append, show i + 1 + n = i + (n + 1) from by omega]
def readConf (s : ByteArray) : List Int × Bool := if confOk (bytesFrom s 0 s.size) then (bytesFrom s 0 s.size, true) else ([], false)

def entryOk (t k : Int) (d : ByteArray) : Bool := decide (0 ≤ t ∧ t ≤ 100000) && (if k = 1 then d.toList == ([] : List UInt8) else if k = 2 then (readConf d).2 else if k = 3 then decide ((d.size : Int) ≤ 120) else false)
end Go.Proofs.Ytdjikjmjajlgcaa
end

/-! ### YtdjikjmjajlgcaaConfFnPuts -/
section
namespace Go.Proofs.Ytdjikjmjajlgcaa.PFnPuts
open Go.RowKit Go.Proofs.YtdjikjmjajlgcaaW.PrintWords
set_option linter.unusedSimpArgs false
set_option linter.unusedVariables false

theorem in_f (a b c : Int) : impl_in.f a b c = some (decide (b ≤ a ∧ a ≤ c)) := by
  unfold impl_in.f
  by_cases h : a ≥ b
  · rw [if_pos h]; simp [show b ≤ a from h]
  · rw [if_neg h]; simp [show ¬ b ≤ a from h]
theorem l01In_f (a b c : Int) : spec_l01In.f a b c = some (decide (b ≤ a ∧ a ≤ c)) := by
  unfold spec_l01In.f
  by_cases h : a ≥ b
  · rw [if_pos h]; simp [show b ≤ a from h]
  · rw [if_neg h]; simp [show ¬ b ≤ a from h]

theorem rise_l0 (xs : List Int) : ∀ (n k i : Nat), n + i = xs.length → n < k → xs.length < 4611686018427387904 → spec_l05Rise.l0 k xs 1 4 i = some (rises xs i n)
  | 0, 0, _, _, hk, _ => by omega
  | 0, k + 1, i, h, _, _ => by
    unfold spec_l05Rise.l0
    rw [if_neg (by omega)]
    rfl
  | n + 1, 0, _, _, hk, _ => by omega
  | n + 1, k + 1, i, h, hk, hl => by
    have e1 : wrap64 ((i : Int) + 1) = ((i + 1 : Nat) : Int) := by unfold wrap64; omega
    have e2 : 0 < (i : Int) → wrap64 ((i : Int) - 1) = (i : Int) - 1 := fun _ => by unfold wrap64; omega
    have ih := rise_l0 xs n k (i + 1) (by omega) (by omega) hl
    unfold spec_l05Rise.l0
    rw [if_pos (by omega), if_pos (by omega), l01In_f, Option.bind_some, e1]
    clear e1
    rw [ih]
    by_cases hin : 1 ≤ rd xs i ∧ rd xs i ≤ 4
    · rw [if_pos (by simpa using hin)]
      by_cases hi : (i : Int) > 0
      · rw [if_pos hi, e2 hi]
        clear e2
        rw [if_pos (by omega), if_pos (by omega)]
        by_cases hge : rd xs ((i : Int) - 1) ≥ rd xs i
        · rw [if_pos hge]
          have : ¬ i = 0 := by omega
          simp [rises, this, show ¬ rd xs ((i : Int) - 1) < rd xs i from by omega]
        · rw [if_neg hge]
          simp [rises, hin, show rd xs ((i : Int) - 1) < rd xs i from by omega]
      · rw [if_neg hi]
        have : i = 0 := by omega
        subst this
        simp only [rises]
        simp at hin
        simp [hin]
    · rw [if_neg (by simpa using hin)]
      simp only [rises]
      simp only [hin]
      simp
theorem iconf_l0 (xs : List Int) : ∀ (n k i : Nat), n + i = xs.length → n < k → xs.length < 4611686018427387904 → impl_ConfOk.l0 k xs xs xs.length i = some (rises xs i n && decide (1 ≤ xs.length))
  | 0, 0, _, _, hk, _ => by omega
  | 0, k + 1, i, h, _, _ => by
    unfold impl_ConfOk.l0
    rw [if_neg (by omega)]
    simp [rises]
    omega
  | n + 1, 0, _, _, hk, _ => by omega
  | n + 1, k + 1, i, h, hk, hl => by
    have e1 : wrap64 ((i : Int) + 1) = ((i + 1 : Nat) : Int) := by unfold wrap64; omega
    have e2 : 0 < (i : Int) → wrap64 ((i : Int) - 1) = (i : Int) - 1 := fun _ => by unfold wrap64; omega
    have ih := iconf_l0 xs n k (i + 1) (by omega) (by omega) hl
    unfold impl_ConfOk.l0
    rw [if_pos (by omega), if_pos (by omega), if_pos (by omega), in_f, Option.bind_some, e1]
    clear e1
    rw [ih]
    by_cases hin : 1 ≤ rd xs i ∧ rd xs i ≤ 4
    · rw [if_pos (by simpa using hin)]
      by_cases hi : (i : Int) > 0
      · rw [if_pos hi, e2 hi]
        clear e2
        rw [if_pos (by omega), if_pos (by omega)]
        by_cases hge : rd xs ((i : Int) - 1) ≥ rd xs i
        · rw [if_pos hge]
          have : ¬ i = 0 := by omega
          simp [rises, this, show ¬ rd xs ((i : Int) - 1) < rd xs i from by omega]
        · rw [if_neg hge]
          simp [rises, hin, show rd xs ((i : Int) - 1) < rd xs i from by omega]
      · rw [if_neg hi]
        have : i = 0 := by omega
        subst this
        simp only [rises]
        simp at hin
        simp [hin]
    · rw [if_neg (by simpa using hin)]
      simp only [rises]
      simp only [hin]
      simp
theorem iconf_f (xs : List Int) (k : Nat) (hk : xs.length < k) (hl : xs.length < 4611686018427387904) : impl_ConfOk.f k xs = some (confOk xs) := iconf_l0 xs xs.length k 0 (by omega) hk hl
theorem sconf_f (xs : List Int) (k : Nat) (hk : xs.length < k) (hl : xs.length < 4611686018427387904) : spec_ConfOk.f k xs = some (confOk xs) := by
  unfold spec_ConfOk.f spec_l05Rise.f
  rw [l01In_f, Option.bind_some]
  have h0 : spec_l05Rise.l0 k xs 1 4 0 = some (rises xs 0 xs.length) := rise_l0 xs xs.length k 0 (by omega) hk hl
  rw [h0]
  by_cases h : (1 : Int) ≤ (xs.length : Int) ∧ (xs.length : Int) ≤ 4
  · rw [if_pos (by simpa using h)]
    have : 1 ≤ xs.length := by omega
    simp [confOk, this]
  · rw [if_neg (by simpa using h)]
    cases hc : confOk xs with
    | false => rfl
    | true => have := confOk_short hc; omega

theorem iread_l0 (s : ByteArray) : ∀ (n k i : Nat) (acc : List Int), n + i = s.size → acc.length = i → n + s.size + 1 < k → s.size < 17592186044416 →
    impl_ReadConf.l0 k s acc s.size i = some (if confOk (acc ++ bytesFrom s i n) then (acc ++ bytesFrom s i n, true) else ([], false))
  | 0, 0, _, _, _, _, hk, _ => by omega
  | 0, k + 1, i, acc, h, ha, hk, hs => by
    unfold impl_ReadConf.l0
    rw [if_neg (by omega), iconf_f acc k (by omega) (by omega)]
    simp only [bytesFrom, List.append_nil, Option.bind_some]
    split <;> rfl
  | n + 1, 0, _, _, _, _, hk, _ => by omega
  | n + 1, k + 1, i, acc, h, ha, hk, hs => by
    have e1 : wrap64 ((i : Int) + 1) = ((i + 1 : Nat) : Int) := by unfold wrap64; omega
    have hb := bt_range s (i : Int)
    have e2 : wrap64 (bt s (i : Int)) = bt s (i : Int) := by unfold wrap64; omega
    unfold impl_ReadConf.l0
    rw [if_pos (by omega), if_pos (by omega), if_pos (by omega), if_pos (by omega), e1, e2]
    clear e1 e2
    rw [iread_l0 s n k (i + 1) (acc ++ [bt s (i : Int)]) (by omega) (by simp [ha]) (by omega) hs]
    simp only [bytesFrom, List.append_assoc, List.cons_append, List.nil_append]
    rfl
theorem iread_f (s : ByteArray) (k : Nat) (hk : s.size + s.size + 1 < k) (hs : s.size < 17592186044416) : impl_ReadConf.f k s = some (readConf s) := by
  have := iread_l0 s s.size k 0 [] (by omega) rfl hk hs
  simpa [impl_ReadConf.f, readConf] using this
theorem sread_l0 (s : ByteArray) : ∀ (n k i : Nat) (acc : List Int), n + i = s.size → acc = bytesFrom s 0 i → i ≤ 5 → n + s.size + 1 < k → s.size < 17592186044416 →
    spec_ReadConf.l0 k s acc i = some (readConf s)
  | n, 0, _, _, _, _, _, hk, _ => by omega
  | n, k + 1, i, acc, h, ha, h5, hk, hs => by
    have hlen : acc.length = i := by rw [ha, bytesFrom_length]
    have e1 : wrap64 ((i : Int) + 1) = ((i + 1 : Nat) : Int) := by unfold wrap64; omega
    have hb := bt_range s (i : Int)
    have e2 : wrap64 (bt s (i : Int)) = bt s (i : Int) := by unfold wrap64; omega
    have hfin : ∀ (hd : n = 0 ∨ i = 5), (if (acc.length : Int) = (s.size : Int) then ((spec_ConfOk.f k acc).bind fun t => (if t = true then (some (acc, true)) else (some ((([] : List Int)), false)))) else (some ((([] : List Int)), false))) = some (readConf s) := by
      intro hd
      by_cases he : acc.length = s.size
      · rw [if_pos (by omega), sconf_f acc k (by omega) (by omega), Option.bind_some]
        have hi : i = s.size := by omega
        subst ha
        unfold readConf
        rw [← hi]
        split <;> rfl
      · rw [if_neg (by omega)]
        unfold readConf
        have hn : ¬ confOk (bytesFrom s 0 s.size) = true := fun hc => by
          have := confOk_short hc
          rw [bytesFrom_length] at this
          rcases hd with h0 | h0 <;> omega
        rw [if_neg hn]
    unfold spec_ReadConf.l0
    by_cases h1 : (i : Int) < (s.size : Int)
    · rw [if_pos h1]
      by_cases h4 : (i : Int) ≤ 4
      · rw [if_pos h4, if_pos (by omega), if_pos (by omega), e1, e2]
        clear e1 e2
        obtain ⟨m, rfl⟩ : ∃ m, n = m + 1 := ⟨n - 1, by omega⟩
        refine sread_l0 s m k (i + 1) _ (by omega) ?_ (by omega) (by omega) hs
        rw [ha, bytesFrom_snoc s i 0]
        simp
      · rw [if_neg h4]
        exact hfin (.inr (by omega))
    · rw [if_neg h1]
      exact hfin (.inl (by omega))
theorem sread_f (s : ByteArray) (k : Nat) (hk : s.size + s.size + 1 < k) (hs : s.size < 17592186044416) : spec_ReadConf.f k s = some (readConf s) := sread_l0 s s.size k 0 [] (by omega) rfl (by omega) hk hs

theorem ientry_f (t n : Int) (d : ByteArray) (k : Nat) (hk : d.size + d.size + 1 < k) (hs : d.size < 17592186044416) : impl_EntryOk.f k t n d = some (entryOk t n d) := by
  unfold impl_EntryOk.f entryOk
  rw [in_f, iread_f d k hk hs]
  by_cases h : 0 ≤ t ∧ t ≤ 100000
  · simp only [h, Option.bind_some, and_self, decide_true, if_true, Bool.true_and]
    split
    · rfl
    · split
      · rfl
      · split <;> rfl
  · simp only [h, Option.bind_some, decide_false, Bool.false_and]
    rfl
theorem sentry_f (t n : Int) (d : ByteArray) (k : Nat) (hk : d.size + d.size + 1 < k) (hs : d.size < 17592186044416) : spec_EntryOk.f k t n d = some (entryOk t n d) := by
  unfold spec_EntryOk.f entryOk
  rw [l01In_f, sread_f d k hk hs]
  by_cases h : 0 ≤ t ∧ t ≤ 100000
  · simp only [h, Option.bind_some, and_self, decide_true, if_true, Bool.true_and]
    split
    · rfl
    · split
      · rfl
      · split <;> rfl
  · simp only [h, Option.bind_some, decide_false, Bool.false_and]
    rfl

/-- A conf in bytes. -/
def confBs (xs : List Int) : List Int := xs.map (fun x => x % 256)
theorem take_confBs (xs : List Int) (i : Nat) (h : i < xs.length) : (confBs xs).take (i + 1) = (confBs xs).take i ++ [rd xs (i : Int) % 256] := by
  have hl : i < (confBs xs).length := by simpa [confBs] using h
  rw [List.take_succ_eq_append_getElem hl]
  simp [confBs, rd, h]
theorem sctext_l0 (xs : List Int) (hl : xs.length ≤ 1099511627776) : ∀ (n k i : Nat), n + i = xs.length → n < k → spec_ConfText.l0 k xs ((confBs xs).take i) i = some (strOfNums (confBs xs), true)
  | _, 0, _, _, hk => by omega
  | 0, k + 1, i, h, hk => by
    unfold spec_ConfText.l0
    rw [if_neg (by omega), List.take_of_length_le (by simp [confBs]; omega)]
  | n + 1, k + 1, i, h, hk => by
    have e1 : wrap64 ((i : Int) + 1) = ((i + 1 : Nat) : Int) := by unfold wrap64; omega
    unfold spec_ConfText.l0
    rw [if_pos (by omega), if_pos (by omega), if_pos (by simp [confBs]; omega), e1, ← take_confBs xs i (by omega)]
    clear e1
    exact sctext_l0 xs hl n k (i + 1) (by omega) (by omega)
theorem sctext_f (xs : List Int) (k : Nat) (hk : xs.length < k) (hl : xs.length ≤ 1099511627776) : spec_ConfText.f k xs = some (if confOk xs then (strOfNums (confBs xs), true) else (⟨#[]⟩, false)) := by
  unfold spec_ConfText.f
  rw [sconf_f xs k hk (by omega), Option.bind_some]
  have := sctext_l0 xs hl xs.length k 0 (by omega) hk
  cases hc : confOk xs with
  | false => rw [if_neg (by simp)]; rfl
  | true => rw [if_pos rfl]; exact this
end Go.Proofs.Ytdjikjmjajlgcaa.PFnPuts
end
