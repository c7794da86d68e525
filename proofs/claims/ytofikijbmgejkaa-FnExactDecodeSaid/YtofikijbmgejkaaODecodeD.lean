import Derived.Test.YtofikijbmgejkaaODecodeC
import Derived.Test.YtofikijbmgejkaaWWords
import Derived.Test.YtofikijbmgejkaaPDecodeB
import Derived.Test.YtofikijbmgejkaaODecodeA
import Derived.Test.YtofikijbmgejkaaPDecodeC

/-! ### YtofikijbmgejkaaFlowL -/
section
namespace Go.Proofs.Ytofikijbmgejkaa
open Go.RowKit
set_option linter.unusedVariables false
set_option linter.unusedSimpArgs false

/-! The flow rule over any relation of worlds that a call keeps (a cursor that moves, say); the last operation, which waits for all others, may do anything. (own) -/
section
variable {P : Program} {L : World → World → Prop}
def VMonoL (L : World → World → Prop) (R : VPred) : Prop := ∀ w w' v, R w v → L w w' → R w' v
def flowUponL (P : Program) (L : World → World → Prop) (R : VPred) (w : World) : Result Next → Prop
  | .ok (.value u) w' => L w w' ∧ R w' u
  | .ok .skip w' => L w w' ∧ R w' undef
  | .ok (.enter f args) w' => Calls P f args w' (fun e w'' => ∃ v, e = .returned v ∧ L w w'' ∧ R w'' v)
  | _ => False
def lastUpon (P : Program) (Q : Act → World → Prop) (o : Oper) (A : Act) : Result Next → Prop
  | .ok (.value u) w' => Q (A.put o.dst u) w'
  | .ok .skip w' => Q (A.put o.dst undef) w'
  | .ok (.enter f args) w' => Calls P f args w' (fun e w'' => ∃ v, e = .returned v ∧ Q (A.put o.dst v) w'')
  | _ => False
structure LastUpon (P : Program) (Q : Act → World → Prop) (o : Oper) (A : Act) (r : Result Next) : Prop where
  out : lastUpon P Q o A r
def FlowL (P : Program) (L : World → World → Prop) (w : World) (a : Act) (bs : List Nat) (Q : Exit → Act → World → Prop) (l0 : List Oper) : List Oper → Nat → FTab → Prop
  | [], _, T => False
  | [o], i, T => ∀ x w', L w w' → allT x w' T → LastUpon P (Q .normal) o (frameOf x l0.dropLast 0 a) ((execOp (frameOf x l0.dropLast 0 a).eval o).run P w')
  | o :: o2 :: rest, i, T => ∃ R : VPred, VMonoL L R ∧
      (∀ A w', L w w' → baseF A a bs → deps T A w' o.after.toList → flowUponL P L R w' ((execOp A.eval o).run P w')) ∧ FlowL P L w a bs Q l0 (o2 :: rest) (i + 1) (addT o i R T)

theorem flow_tableL {w : World} {a : Act} {bs : List Nat} {Q : Exit → Act → World → Prop} {l0 : List Oper} : ∀ (rest : List Oper) (i : Nat) (T : FTab), (∀ k d R, (k, d, R) ∈ T → k < i) → FlowL P L w a bs Q l0 rest i T →
    ∃ (T' : FTab) (last : Oper), rest[rest.length - 1]? = some last ∧ 0 < rest.length ∧ (∀ x ∈ T, x ∈ T') ∧ (∀ k d R, (k, d, R) ∈ T' → k < i → (k, d, R) ∈ T) ∧ (∀ k d R, (k, d, R) ∈ T' → k + 1 < i + rest.length) ∧
      (∀ (j : Nat) (o : Oper), rest[j]? = some o → j + 1 < rest.length → ∃ R, VMonoL L R ∧ (∀ d' R', (i + j, d', R') ∈ T' → o.dst = some d' ∧ R' = R) ∧
        (∀ A w', L w w' → baseF A a bs → (∀ e ∈ o.after.toList, Region.binds .any e = true → ∀ d R, (e.on, d, R) ∈ T' → R w' (A.eval (.tmp d))) → flowUponL P L R w' ((execOp A.eval o).run P w'))) ∧
      (∀ x w', L w w' → allT x w' T' → LastUpon P (Q .normal) last (frameOf x l0.dropLast 0 a) ((execOp (frameOf x l0.dropLast 0 a).eval last).run P w'))
  | [], i, T, hT, h => h.elim
  | [o], i, T, hT, h => ⟨T, o, rfl, by simp, fun _ h => h, fun _ _ _ h _ => h, fun k d R hm => by have := hT k d R hm; simp only [List.length_singleton]; omega, fun j o' hj hl => by simp at hl, h⟩
  | o :: o2 :: rest, i, T, hT, h => by
    obtain ⟨R, hmono, hobl, hrest⟩ := h
    have hT1 : ∀ k d R', (k, d, R') ∈ addT o i R T → k < i + 1 := fun k d R' hm => by
      unfold addT at hm
      split at hm
      · rcases List.mem_cons.1 hm with hm | hm
        · simp only [Prod.mk.injEq] at hm; omega
        · have := hT k d R' hm; omega
      · have := hT k d R' hm; omega
    have hsub : ∀ y ∈ T, y ∈ addT o i R T := fun y hy => by
      unfold addT
      split
      · exact .tail _ hy
      · exact hy
    obtain ⟨T', last, h0, hpos, h1, h2, h3, h4, h5⟩ := flow_tableL (o2 :: rest) (i + 1) (addT o i R T) hT1 hrest
    refine ⟨T', last, by simpa using h0, by simp, fun y hy => h1 y (hsub y hy), fun k d R' hm hk => ?_, fun k d R' hm => ?_, fun j o' hj hjl => ?_, h5⟩
    · have := h2 k d R' hm (by omega)
      unfold addT at this
      split at this
      · rcases List.mem_cons.1 this with hm | hm
        · simp only [Prod.mk.injEq] at hm; omega
        · exact hm
      · exact this
    · have := h3 k d R' hm
      simp only [List.length_cons] at this ⊢; omega
    · cases j with
      | zero =>
        simp only [List.getElem?_cons_zero, Option.some.injEq] at hj
        subst hj
        refine ⟨R, hmono, fun d' R' hm => ?_, fun A w' hb hbase hd => hobl A w' hb hbase (deps_of fun e he hbn d R' hm => hd e he hbn d R' (h1 _ (hsub _ hm)))⟩
        have := h2 _ d' R' hm (by omega)
        unfold addT at this
        split at this
        · rename_i dd hdd
          rcases List.mem_cons.1 this with hm | hm
          · simp only [Prod.mk.injEq] at hm
            exact ⟨by rw [hdd, hm.2.1], hm.2.2⟩
          · have := hT _ d' R' hm; omega
        · have := hT _ d' R' this; omega
      | succ j =>
        simp only [List.getElem?_cons_succ] at hj
        obtain ⟨R2, a1, a2, a3⟩ := h4 j o' hj (by simp only [List.length_cons] at hjl ⊢; omega)
        exact ⟨R2, a1, fun d' R' hm => a2 d' R' (by rw [show i + 1 + j = i + (j + 1) from by omega]; exact hm), a3⟩

theorem flow_uponL {o : Oper} {A : Act} {w : World} {R : VPred} {K : Act → World → Prop} {Q : Exit → Act → World → Prop}
    (h : flowUponL P L R w ((execOp A.eval o).run P w)) (hk : ∀ v w', L w w' → (R w' v) → K (A.put o.dst v) w') : o.wp P A w K Q := by
  unfold Oper.wp
  generalize (execOp A.eval o).run P w = r at *
  cases r with
  | ok n w' =>
    cases n <;> simp only [flowUponL] at h <;> simp only [Oper.upon]
    case value u => exact hk _ _ h.1 h.2
    case skip => exact hk _ _ h.1 h.2
    case enter f args =>
      refine h.mono ?_
      rintro e w2 ⟨v, rfl, hb, hr⟩
      exact hk _ _ hb hr
  | halt x w' => simp only [flowUponL] at h
theorem last_upon {o : Oper} {A : Act} {w : World} {K K' : Act → World → Prop} {Q : Exit → Act → World → Prop}
    (h : lastUpon P K' o A ((execOp A.eval o).run P w)) (hk : ∀ v w', K' (A.put o.dst v) w' → K (A.put o.dst v) w') : o.wp P A w K Q := by
  unfold Oper.wp
  generalize (execOp A.eval o).run P w = r at *
  cases r with
  | ok n w' =>
    cases n <;> simp only [lastUpon] at h <;> simp only [Oper.upon]
    case value u => exact hk _ _ h
    case skip => exact hk _ _ h
    case enter f args =>
      refine h.mono ?_
      rintro e w2 ⟨v, rfl, hr⟩
      exact hk _ _ hr
  | halt x w' => simp only [lastUpon] at h

/-- Every operation but the last is waited for by a later one. -/
def feedB (l : List Oper) : Bool := (List.range (l.length - 1)).all fun i => (List.range l.length).any fun j => decide (i < j) && match l[j]? with
  | some o => o.after.toList.any fun e => e.on == i && Region.binds .any e
  | none => false
theorem feedB_spec {l : List Oper} (h : feedB l = true) (i : Nat) (hi : i + 1 < l.length) : ∃ (j : Nat) (o : Oper), i < j ∧ l[j]? = some o ∧ ∃ e ∈ o.after.toList, e.on = i ∧ Region.binds .any e = true := by
  have h1 := List.all_eq_true.1 h i (List.mem_range.2 (by omega))
  obtain ⟨j, hj, h2⟩ := List.any_eq_true.1 h1
  simp only [Bool.and_eq_true, decide_eq_true_eq] at h2
  obtain ⟨hij, h3⟩ := h2
  cases ho : l[j]? with
  | none => rw [ho] at h3; simp at h3
  | some o =>
    rw [ho] at h3
    simp only [List.any_eq_true, Bool.and_eq_true, beq_iff_eq] at h3
    obtain ⟨e, he, h4, h5⟩ := h3
    exact ⟨j, o, hij, ho, e, he, h4, h5⟩

theorem wp_region_flowL {id : Nat} {Q : Exit → Act → World → Prop} {a : Act} {w : World} {l : List Oper} (hdr : ∀ w : World, L w w.drew) (htr : ∀ a b c, L a b → L b c → L a c) (bs : List Nat) (n : Nat) (hm : P.follows .mixedOrders = true) (hn : a.tmps.size = n)
    (hB : flowB n l = true) (hO : flowO l 0 = true) (hF : feedB l = true) (hbs : bs.all (fun t => l.dropLast.all (fun o => o.dst != some t)) = true) (h : FlowL P L w a bs Q l l 0 []) : (Code.region id l.toArray true).wp P Q a w := by
  obtain ⟨T, last, hlast, hpos, -, -, hlen, hobl, hfin⟩ := flow_tableL l 0 [] (by simp) h
  subst hn
  have hdrop : ∀ i, i + 1 < l.length → l.dropLast[i]? = l[i]? := fun i hi => by
    rw [List.getElem?_dropLast, if_pos (by omega)]
  refine wp_region_any hm ?_
  refine wpAny_inv (fun listed A w' => listed.size = l.length ∧ ((listed.getD (l.length - 1) false = false ∧ L w w' ∧ A.defers = a.defers ∧ A.tmps.size = a.tmps.size ∧ (∀ t, a.tmps[t]? ≠ A.tmps[t]? → ∃ (i : Nat) (o : Oper), l[i]? = some o ∧ o.dst = some t ∧ listed.getD i false = true) ∧
      (∀ (j : Nat) (o : Oper), l[j]? = some o → listed.getD j false = true → ∀ e ∈ o.after.toList, Region.binds .any e = true → listed.getD e.on false = true) ∧
      (∀ i d R, (i, d, R) ∈ T → listed.getD i false = true → R w' (A.eval (.tmp d)))) ∨ ((∀ i, i < l.length → listed.getD i false = true) ∧ Q .normal A w'))) ?_ ?_ (fun listed => unl listed.toList) ?_ _ _ _ _ ?_ ?_
  · rintro listed A w' i ⟨hsz, hI⟩ hi
    obtain ⟨hun, o, ho, haft⟩ := mem_ready.1 hi
    have ho' : l[i]? = some o := by simpa using ho
    have hil : i < l.length := (List.getElem?_eq_some_iff.1 ho').1
    obtain ⟨hg, hd⟩ := flowB_spec hB i o ho'
    rcases hI with ⟨hnl, hbel, hdef, hts, hdiff, hcl, hall⟩ | ⟨hdone, -⟩
    · unfold wpOp
      rw [ho]
      simp only [Region.wanted, hg, if_true]
      by_cases hil1 : i + 1 < l.length
      · obtain ⟨R, hmono, huniq, hob⟩ := hobl i o ho' hil1
        simp only [Nat.zero_add] at huniq
        refine .inl (flow_uponL (hob A w' hbel (baseF_of fun t ht => ?_) fun e he hb d R hmem => hall _ d R hmem (haft e (by simpa using he) hb)) fun v w2 hb2 hR => ?_)
        · have h1 := List.all_eq_true.1 hbs t ht
          have h2 : ∀ o ∈ l.dropLast, o.dst ≠ some t := fun o ho => by simpa using List.all_eq_true.1 h1 o ho
          have h3 : a.tmps[t]? = A.tmps[t]? := Classical.byContradiction fun hne => by
            obtain ⟨j, oj, hj, hdj, hlj⟩ := hdiff t hne
            have hjl : j < l.length := (List.getElem?_eq_some_iff.1 hj).1
            have hj1 : j + 1 < l.length := by
              by_cases hjj : j = l.length - 1
              · subst hjj; rw [hnl] at hlj; cases hlj
              · omega
            exact h2 oj (List.mem_of_getElem? ((hdrop j hj1).trans hj)) hdj
          simp only [Act.eval, Array.getD_eq_getD_getElem?, h3]
        · refine ⟨by simpa using hsz, .inl ⟨?_, htr _ _ _ hbel hb2, ?_, ?_, ?_, ?_, ?_⟩⟩
          · rw [getD_set_ne false (by omega)]; exact hnl
          · rw [← hdef]; unfold Act.put; split <;> rfl
          · rw [← hts]; unfold Act.put; split <;> simp
          · intro t ht
            by_cases hdt : o.dst = some t
            · exact ⟨i, o, ho', hdt, getD_set_self (by omega)⟩
            · refine (hdiff t fun he => ht ?_).imp fun j => Exists.imp fun oj h => ⟨h.1, h.2.1, getD_set_mono h.2.2⟩
              rw [he]
              unfold Act.put
              split
              · rename_i t' ht'
                have : t' ≠ t := fun e => hdt (by rw [ht', e])
                rw [Array.getElem?_setIfInBounds_ne this]
              · rfl
          · intro j oj hj hlj e he hb
            by_cases hij : i = j
            · subst hij
              obtain rfl : o = oj := by rw [ho'] at hj; exact Option.some.inj hj
              exact getD_set_mono (haft e (by simpa using he) hb)
            · rw [getD_set_ne false hij] at hlj
              exact getD_set_mono (hcl j oj hj hlj e he hb)
          · intro k d R' hmem hk
            have hk1 : k + 1 < l.length := by simpa using hlen k d R' hmem
            by_cases hki : i = k
            · subst hki
              obtain ⟨hod, rfl⟩ := huniq d R' hmem
              rw [eval_put_eq hod (by rw [hts]; exact (hd d hod).1)]
              exact hR
            · have hk' : listed.getD k false = true := by rw [getD_set_ne false hki] at hk; exact hk
              have hold := hall k d R' hmem hk'
              have hkl : k < l.length := by omega
              have hko : l[k]? = some l[k] := by simp [hkl]
              obtain ⟨R2, hmono2, huniq2, -⟩ := hobl k l[k] hko hk1
              simp only [Nat.zero_add] at huniq2
              obtain ⟨hod, rfl⟩ := huniq2 d R' hmem
              have hne : o.dst ≠ some d := fun hd0 => by
                rcases Nat.lt_or_gt_of_ne hki with h | h
                · exact (hd d hd0).2 k l[k] hko h hod
                · exact ((flowB_spec hB k l[k] hko).2 d hod).2 i o ho' h hd0
              rw [eval_put_ne hne]
              exact hmono2 _ _ _ hold hb2
      · obtain rfl : i = l.length - 1 := by omega
        obtain rfl : last = o := by rw [ho'] at hlast; exact (Option.some.inj hlast).symm
        have hdone : ∀ m k, k + 1 < l.length → l.length - k ≤ m → listed.getD k false = true := by
          intro m
          induction m with
          | zero => intro k hk hm; omega
          | succ m ih =>
            intro k hk hm
            obtain ⟨j, oj, hkj, hj, e, he, heo, heb⟩ := feedB_spec hF k hk
            have hjl : j < l.length := (List.getElem?_eq_some_iff.1 hj).1
            by_cases hjl1 : j + 1 < l.length
            · have := hcl j oj hj (ih j hjl1 (by omega)) e he heb
              rw [heo] at this; exact this
            · obtain rfl : j = l.length - 1 := by omega
              obtain rfl : last = oj := by rw [ho'] at hj; exact Option.some.inj hj
              have := haft e (by simpa using he) heb
              rw [heo] at this; exact this
        have hx : frameOf (fun i => match (l[i]?).bind (·.dst) with | some d => A.eval (.tmp d) | none => undef) l.dropLast 0 a = A := by
          refine frame_eq _ A l.dropLast 0 a hdef hts (fun i o d hi hd hlt => ?_) (fun t ht => ?_)
          · have hi1 : i + 1 < l.length := by have := (List.getElem?_eq_some_iff.1 hi).1; simp at this; omega
            rw [hdrop i hi1] at hi
            simp only [Nat.zero_add, hi, Option.bind_some, hd, Act.eval, Array.getD_eq_getD_getElem?]
            have : d < A.tmps.size := by rw [hts]; exact hlt
            simp [this]
          · obtain ⟨j, oj, hj, hdj, hlj⟩ := hdiff t ht
            have hjl : j < l.length := (List.getElem?_eq_some_iff.1 hj).1
            have hj1 : j + 1 < l.length := by
              by_cases hjj : j = l.length - 1
              · subst hjj; rw [hnl] at hlj; cases hlj
              · omega
            exact ⟨j, oj, (hdrop j hj1).trans hj, hdj⟩
        have hq := hfin (fun i => match (l[i]?).bind (·.dst) with | some d => A.eval (.tmp d) | none => undef) w' hbel (allT_of fun k d R hmem => by
          have hk1 : k + 1 < l.length := by simpa using hlen k d R hmem
          have hkl : k < l.length := by omega
          have hko : l[k]? = some l[k] := by simp [hkl]
          obtain ⟨R2, -, huniq2, -⟩ := hobl k l[k] hko hk1
          simp only [Nat.zero_add] at huniq2
          obtain ⟨hod, -⟩ := huniq2 d R hmem
          simp only [hko, Option.bind_some, hod]
          exact hall k d R hmem (hdone l.length k hk1 (by omega)))
        rw [hx] at hq
        refine .inl (last_upon hq.out fun v w2 hv => ⟨by simpa using hsz, .inr ⟨fun k hk => ?_, hv⟩⟩)
        by_cases hk1 : k + 1 < l.length
        · exact getD_set_mono (hdone l.length k hk1 (by omega))
        · obtain rfl : k = l.length - 1 := by omega
          exact getD_set_self (by omega)
    · have := hdone i hil
      rw [getD_ft (by omega)] at this
      simp [hun] at this
  · rintro listed A w' ⟨hsz, hI⟩ hno
    rcases hI with ⟨hnl, hbel, hdef, hts, hdiff, hcl, hall⟩ | ⟨-, hq⟩
    · exfalso
      have hdone : ∀ k, k < l.length → listed.getD k false = true := by
        intro k
        induction k using Nat.strongRecOn with
        | _ k ih =>
          intro hk
          refine Classical.byContradiction fun hf => hno k (mem_ready.2 ⟨?_, l[k], by simp [hk], fun e he hb => ?_⟩)
          · have hks : k < listed.size := by omega
            simp only [Array.getD_eq_getD_getElem?, Array.getElem?_eq_getElem hks, Option.getD_some] at hf ⊢
            simpa using hf
          · have hlt := flowO_spec hO k l[k] (by simp [hk]) e (by simpa using he) hb
            exact ih e.on (by omega) (by omega)
      rw [hdone (l.length - 1) (by omega)] at hnl
      cases hnl
    · exact hq
  · rintro listed A w' i ⟨hsz, -⟩ hi
    obtain ⟨hun, o, ho, -⟩ := mem_ready.1 hi
    have hil : i < listed.size := by have := (Array.getElem?_eq_some_iff.1 ho).1; simp at this; omega
    simp only [Array.toList_setIfInBounds]
    refine unl_set _ _ ?_
    simp only [Array.getD_eq_getD_getElem?, Array.getElem?_eq_getElem hil, Option.getD_some] at hun
    simp [hil, hun]
  · simp [unl_rep]
  · refine ⟨by simp, .inl ⟨?_, hdr w, rfl, rfl, fun t ht => absurd rfl ht, fun j o _ hl => ?_, fun i d R _ hl => ?_⟩⟩
    · simp [Array.getD_eq_getD_getElem?, Array.getElem?_replicate]; split <;> simp
    · simp [Array.getD_eq_getD_getElem?, Array.getElem?_replicate] at hl; split at hl <;> simp at hl
    · simp [Array.getD_eq_getD_getElem?, Array.getElem?_replicate] at hl; split at hl <;> simp at hl

theorem flowL_valE {w : World} {a : Act} {bs : List Nat} {Q : Exit → Act → World → Prop} {l0 rest : List Oper} {i : Nat} {T : FTab} {d : Tmp} {op : Op} {ty : TypeId} {pos : String} {es : Array Edge} {g : Option (Nat × Bool)} {o2 : Oper}
    (h : ∃ e, (∀ A w', L w w' → baseF A a bs → deps T A w' es.toList → flowUponL P L (fun _ v => v = e) w' ((execOp A.eval ⟨some d, op, ty, pos, es, g⟩).run P w')) ∧
      FlowL P L w a bs Q l0 (o2 :: rest) (i + 1) ((i, d, fun _ v => v = e) :: T)) : FlowL P L w a bs Q l0 (⟨some d, op, ty, pos, es, g⟩ :: o2 :: rest) i T :=
  let ⟨e, h, k⟩ := h
  ⟨_, fun _ _ _ h _ => h, h, k⟩
theorem flowL_last {w : World} {a : Act} {bs : List Nat} {Q : Exit → Act → World → Prop} {l0 : List Oper} {i : Nat} {T : FTab} {o : Oper}
    (h : ∀ x w', L w w' → allT x w' T → LastUpon P (Q .normal) o (frameOf x l0.dropLast 0 a) ((execOp (frameOf x l0.dropLast 0 a).eval o).run P w')) : FlowL P L w a bs Q l0 [o] i T := h
theorem flowL_R {w : World} {a : Act} {bs : List Nat} {Q : Exit → Act → World → Prop} {l0 rest : List Oper} {i : Nat} {T : FTab} {d : Tmp} {op : Op} {ty : TypeId} {pos : String} {es : Array Edge} {g : Option (Nat × Bool)} {o2 : Oper} (R : VPred) (hm : VMonoL L R)
    (h : ∀ A w', L w w' → baseF A a bs → deps T A w' es.toList → flowUponL P L R w' ((execOp A.eval ⟨some d, op, ty, pos, es, g⟩).run P w'))
    (k : FlowL P L w a bs Q l0 (o2 :: rest) (i + 1) ((i, d, R) :: T)) : FlowL P L w a bs Q l0 (⟨some d, op, ty, pos, es, g⟩ :: o2 :: rest) i T := ⟨R, hm, h, k⟩
end
end Go.Proofs.Ytofikijbmgejkaa
end

/-! ### YtofikijbmgejkaaFlowT -/
section
namespace Go.Proofs.Ytofikijbmgejkaa
open Go.RowKit
set_option linter.unusedVariables false
set_option linter.unusedSimpArgs false

/-! The flow rule with a tail: the first operations in any order (one of them may write a row that the others leave alone: number j0), those behind them one by one, in their order. (own) -/
section
variable {P : Program} {L M : World → World → Prop} {J J1 : World → Prop} {j0 : Nat}
def seqUpon (P : Program) (Q : Act → World → Prop) : List Oper → Act → World → Prop
  | [], A, w => Q A w
  | o :: r, A, w => lastUpon P (seqUpon P Q r) o A ((execOp A.eval o).run P w)
structure SeqUpon (P : Program) (Q : Act → World → Prop) (l : List Oper) (A : Act) (w : World) : Prop where
  out : seqUpon P Q l A w
theorem flowUponL_imp {P : Program} {L : World → World → Prop} {R R' : VPred} {w : World} {r : Result Next} (h : flowUponL P L R w r) (hi : ∀ W u, R W u → R' W u) : flowUponL P L R' w r := by
  cases r with
  | ok n w' =>
    cases n <;> simp only [flowUponL] at h ⊢
    case value u => exact ⟨h.1, hi _ _ h.2⟩
    case skip => exact ⟨h.1, hi _ _ h.2⟩
    case enter f args =>
      refine h.mono ?_
      rintro e w2 ⟨v, rfl, hb, hr⟩
      exact ⟨v, rfl, hb, hi _ _ hr⟩
  | halt x w' => simp only [flowUponL] at h
def FlowT (P : Program) (L M : World → World → Prop) (J J1 : World → Prop) (j0 : Nat) (w : World) (a : Act) (bs : List Nat) (Q : Exit → Act → World → Prop) (l0 : List Oper) (n0 : Nat) : Nat → List Oper → Nat → FTab → Prop
  | 0, rest, _, T => ∀ x w', L w w' → allT x w' T → (j0 < n0 → J1 w') → SeqUpon P (Q .normal) rest (frameOf x (l0.take n0) 0 a) w'
  | _ + 1, [], _, _ => False
  | m + 1, o :: rest, i, T => ∃ R : VPred, (if i = j0 then VMonoL M R else VMonoL L R) ∧
      (∀ A w', L w w' → (i = j0 → J w') → baseF A a bs → deps T A w' o.after.toList → flowUponL P (if i = j0 then L else M) (fun W u => R W u ∧ (i = j0 → J1 W)) w' ((execOp A.eval o).run P w')) ∧ FlowT P L M J J1 j0 w a bs Q l0 n0 m rest (i + 1) (addT o i R T)

theorem flow_tableT {w : World} {a : Act} {bs : List Nat} {Q : Exit → Act → World → Prop} {l0 : List Oper} {n0 : Nat} : ∀ (m : Nat) (rest : List Oper) (i : Nat) (T : FTab), (∀ k d R, (k, d, R) ∈ T → k < i) → FlowT P L M J J1 j0 w a bs Q l0 n0 m rest i T →
    ∃ (T' : FTab), m ≤ rest.length ∧ (∀ x ∈ T, x ∈ T') ∧ (∀ k d R, (k, d, R) ∈ T' → k < i → (k, d, R) ∈ T) ∧ (∀ k d R, (k, d, R) ∈ T' → k < i + m) ∧
      (∀ (j : Nat) (o : Oper), rest[j]? = some o → j < m → ∃ R, (if i + j = j0 then VMonoL M R else VMonoL L R) ∧ (∀ d' R', (i + j, d', R') ∈ T' → o.dst = some d' ∧ R' = R) ∧
        (∀ A w', L w w' → (i + j = j0 → J w') → baseF A a bs → (∀ e ∈ o.after.toList, Region.binds .any e = true → ∀ d R, (e.on, d, R) ∈ T' → R w' (A.eval (.tmp d))) → flowUponL P (if i + j = j0 then L else M) (fun W u => R W u ∧ (i + j = j0 → J1 W)) w' ((execOp A.eval o).run P w'))) ∧
      (∀ x w', L w w' → allT x w' T' → (j0 < n0 → J1 w') → SeqUpon P (Q .normal) (rest.drop m) (frameOf x (l0.take n0) 0 a) w')
  | 0, rest, i, T, hT, h => ⟨T, by simp, fun _ h => h, fun _ _ _ h _ => h, fun k d R hm => by simpa using hT k d R hm, fun j o hj hl => by omega, by rw [List.drop_zero]; exact h⟩
  | m + 1, [], i, T, hT, h => h.elim
  | m + 1, o :: rest, i, T, hT, h => by
    obtain ⟨R, hmono, hobl, hrest⟩ := h
    have hT1 : ∀ k d R', (k, d, R') ∈ addT o i R T → k < i + 1 := fun k d R' hm => by
      unfold addT at hm
      split at hm
      · rcases List.mem_cons.1 hm with hm | hm
        · simp only [Prod.mk.injEq] at hm; omega
        · have := hT k d R' hm; omega
      · have := hT k d R' hm; omega
    have hsub : ∀ y ∈ T, y ∈ addT o i R T := fun y hy => by
      unfold addT
      split
      · exact .tail _ hy
      · exact hy
    obtain ⟨T', hlen, h1, h2, h3, h4, h5⟩ := flow_tableT m rest (i + 1) (addT o i R T) hT1 hrest
    refine ⟨T', by simp only [List.length_cons]; omega, fun y hy => h1 y (hsub y hy), fun k d R' hm hk => ?_, fun k d R' hm => ?_, fun j o' hj hjl => ?_, by simpa using h5⟩
    · have := h2 k d R' hm (by omega)
      unfold addT at this
      split at this
      · rcases List.mem_cons.1 this with hm | hm
        · simp only [Prod.mk.injEq] at hm; omega
        · exact hm
      · exact this
    · have := h3 k d R' hm
      omega
    · cases j with
      | zero =>
        simp only [List.getElem?_cons_zero, Option.some.injEq] at hj
        subst hj
        refine ⟨R, hmono, fun d' R' hm => ?_, fun A w' hb hj hbase hd => hobl A w' hb hj hbase (deps_of fun e he hbn d R' hm => hd e he hbn d R' (h1 _ (hsub _ hm)))⟩
        have := h2 _ d' R' hm (by omega)
        unfold addT at this
        split at this
        · rename_i dd hdd
          rcases List.mem_cons.1 this with hm | hm
          · simp only [Prod.mk.injEq] at hm
            exact ⟨by rw [hdd, hm.2.1], hm.2.2⟩
          · have := hT _ d' R' hm; omega
        · have := hT _ d' R' this; omega
      | succ j =>
        simp only [List.getElem?_cons_succ] at hj
        obtain ⟨R2, a1, a2, a3⟩ := h4 j o' hj (by omega)
        rw [show i + 1 + j = i + (j + 1) from by omega] at a1 a2 a3
        exact ⟨R2, a1, a2, a3⟩

/-- What an operation waits for, all the way. -/
def edgesOf (l : List Oper) (j : Nat) : List Nat := match l[j]? with
  | some o => (o.after.toList.filter (fun e => Region.binds .any e)).map (·.on)
  | none => []
def ancF (l : List Oper) : Nat → List Nat → List Nat
  | 0, S => S
  | j + 1, S => ancF l j (if S.contains j then S ++ edgesOf l j else S)
def tailOrd (l : List Oper) (n0 : Nat) : Bool := (List.range l.length).all fun d => decide (d < n0) || (List.range d).all fun i => (ancF l d (edgesOf l d)).contains i
theorem edges_listed {l : List Oper} {listed : Array Bool} (hcl : ∀ (j : Nat) (o : Oper), l[j]? = some o → listed.getD j false = true → ∀ e ∈ o.after.toList, Region.binds .any e = true → listed.getD e.on false = true) (j : Nat) (hj : listed.getD j false = true) :
    ∀ i ∈ edgesOf l j, listed.getD i false = true := by
  intro i hi
  unfold edgesOf at hi
  split at hi
  · rename_i o ho
    obtain ⟨e, he, rfl⟩ := List.mem_map.1 hi
    obtain ⟨he1, he2⟩ := List.mem_filter.1 he
    exact hcl j o ho hj e he1 he2
  · cases hi
theorem anc_listed {l : List Oper} {listed : Array Bool} (hcl : ∀ (j : Nat) (o : Oper), l[j]? = some o → listed.getD j false = true → ∀ e ∈ o.after.toList, Region.binds .any e = true → listed.getD e.on false = true) :
    ∀ (n : Nat) (S : List Nat), (∀ i ∈ S, listed.getD i false = true) → ∀ i ∈ ancF l n S, listed.getD i false = true
  | 0, S, h => h
  | n + 1, S, h => by
    unfold ancF
    refine anc_listed hcl n _ ?_
    split
    · rename_i hc
      intro i hi
      rcases List.mem_append.1 hi with hi | hi
      · exact h i hi
      · exact edges_listed hcl n (h n (by simpa using hc)) i hi
    · exact h
theorem tail_listed {l : List Oper} {n0 d : Nat} {listed : Array Bool} {o : Oper} (hT : tailOrd l n0 = true) (hd : n0 ≤ d) (ho : l[d]? = some o)
    (hcl : ∀ (j : Nat) (o : Oper), l[j]? = some o → listed.getD j false = true → ∀ e ∈ o.after.toList, Region.binds .any e = true → listed.getD e.on false = true)
    (haft : ∀ e ∈ o.after.toList, Region.binds .any e = true → listed.getD e.on false = true) (i : Nat) (hi : i < d) : listed.getD i false = true := by
  have hdl : d < l.length := (List.getElem?_eq_some_iff.1 ho).1
  have h1 := List.all_eq_true.1 hT d (List.mem_range.2 hdl)
  simp only [Bool.or_eq_true, decide_eq_true_eq] at h1
  have h2 := List.all_eq_true.1 (h1.resolve_left (by omega)) i (List.mem_range.2 hi)
  refine anc_listed hcl d (edgesOf l d) ?_ i (by simpa using h2)
  intro k hk
  unfold edgesOf at hk
  rw [ho] at hk
  obtain ⟨e, he, rfl⟩ := List.mem_map.1 hk
  obtain ⟨he1, he2⟩ := List.mem_filter.1 he
  exact haft e he1 he2

theorem wp_region_flowT {id : Nat} {Q : Exit → Act → World → Prop} {a : Act} {w : World} {l : List Oper} (j0 : Nat) (hJ0 : J w.drew) (hJM : ∀ a b, J a → M a b → J b) (hJ1M : ∀ a b, J1 a → M a b → J1 b) (hML : ∀ a b, M a b → L a b) (hdr : ∀ w : World, L w w.drew) (htr : ∀ a b c, L a b → L b c → L a c) (bs : List Nat) (n n0 : Nat) (hm : P.follows .mixedOrders = true) (hn : a.tmps.size = n)
    (hB : flowB n l = true) (hO : flowO l 0 = true) (hT : tailOrd l n0 = true) (hbs : bs.all (fun t => (l.take n0).all (fun o => o.dst != some t)) = true) (h : FlowT P L M J J1 j0 w a bs Q l n0 n0 l 0 []) : (Code.region id l.toArray true).wp P Q a w := by
  obtain ⟨T, hn0, -, -, hlen, hobl, hfin⟩ := flow_tableT n0 l 0 [] (by simp) h
  subst hn
  have htake : ∀ i, i < n0 → (l.take n0)[i]? = l[i]? := fun i hi => by rw [List.getElem?_take, if_pos hi]
  -- what the frame is when all the first ones are done
  have hframe : ∀ (A : Act) (w' : World) (listed : Array Bool), (∀ k, k < n0 → listed.getD k false = true) → (∀ k, n0 ≤ k → k < l.length → listed.getD k false = false) → L w w' → A.defers = a.defers → A.tmps.size = a.tmps.size →
      (∀ t, a.tmps[t]? ≠ A.tmps[t]? → ∃ (i : Nat) (o : Oper), l[i]? = some o ∧ o.dst = some t ∧ listed.getD i false = true) → (∀ i d R, (i, d, R) ∈ T → listed.getD i false = true → R w' (A.eval (.tmp d))) → (listed.getD j0 false = true → J1 w') → seqUpon P (Q .normal) (l.drop n0) A w' := by
    intro A w' listed hdone hno hbel hdef hts hdiff hall hJ1
    have hx : frameOf (fun i => match (l[i]?).bind (·.dst) with | some d => A.eval (.tmp d) | none => undef) (l.take n0) 0 a = A := by
      refine frame_eq _ A (l.take n0) 0 a hdef hts (fun i o d hi hd hlt => ?_) (fun t ht => ?_)
      · have hi1 : i < n0 := by have := (List.getElem?_eq_some_iff.1 hi).1; simp at this; omega
        rw [htake i hi1] at hi
        simp only [Nat.zero_add, hi, Option.bind_some, hd, Act.eval, Array.getD_eq_getD_getElem?]
        have : d < A.tmps.size := by rw [hts]; exact hlt
        simp [this]
      · obtain ⟨j, oj, hj, hdj, hlj⟩ := hdiff t ht
        have hjl : j < l.length := (List.getElem?_eq_some_iff.1 hj).1
        have hj1 : j < n0 := by
          by_cases hjj : j < n0
          · exact hjj
          · rw [hno j (by omega) hjl] at hlj; cases hlj
        exact ⟨j, oj, (htake j hj1).trans hj, hdj⟩
    have hq := hfin (fun i => match (l[i]?).bind (·.dst) with | some d => A.eval (.tmp d) | none => undef) w' hbel (allT_of fun k d R hmem => by
      have hk1 : k < n0 := by simpa using hlen k d R hmem
      have hkl : k < l.length := by omega
      have hko : l[k]? = some l[k] := by simp [hkl]
      obtain ⟨R2, -, huniq2, -⟩ := hobl k l[k] hko hk1
      simp only [Nat.zero_add] at huniq2
      obtain ⟨hod, -⟩ := huniq2 d R hmem
      simp only [hko, Option.bind_some, hod]
      exact hall k d R hmem (hdone k hk1)) (fun h => hJ1 (hdone j0 h))
    rw [hx] at hq
    exact hq.out
  refine wp_region_any hm ?_
  refine wpAny_inv (fun listed A w' => listed.size = l.length ∧ (∀ (j : Nat) (o : Oper), l[j]? = some o → listed.getD j false = true → ∀ e ∈ o.after.toList, Region.binds .any e = true → listed.getD e.on false = true) ∧
      (((∀ k, n0 ≤ k → k < l.length → listed.getD k false = false) ∧ L w w' ∧ A.defers = a.defers ∧ A.tmps.size = a.tmps.size ∧ (∀ t, a.tmps[t]? ≠ A.tmps[t]? → ∃ (i : Nat) (o : Oper), l[i]? = some o ∧ o.dst = some t ∧ listed.getD i false = true) ∧
      (∀ i d R, (i, d, R) ∈ T → listed.getD i false = true → R w' (A.eval (.tmp d))) ∧ (listed.getD j0 false = false → J w') ∧ (listed.getD j0 false = true → J1 w')) ∨ (∃ k, n0 < k ∧ k ≤ l.length ∧ (∀ i, i < k → listed.getD i false = true) ∧ (∀ i, k ≤ i → i < l.length → listed.getD i false = false) ∧ seqUpon P (Q .normal) (l.drop k) A w'))) ?_ ?_ (fun listed => unl listed.toList) ?_ _ _ _ _ ?_ ?_
  · rintro listed A w' i ⟨hsz, hcl, hI⟩ hi
    obtain ⟨hun, o, ho, haft⟩ := mem_ready.1 hi
    have ho' : l[i]? = some o := by simpa using ho
    have hil : i < l.length := (List.getElem?_eq_some_iff.1 ho').1
    obtain ⟨hg, hd⟩ := flowB_spec hB i o ho'
    have haft' : ∀ e ∈ o.after.toList, Region.binds .any e = true → listed.getD e.on false = true := fun e he hb => haft e (by simpa using he) hb
    have hcl' : ∀ (j : Nat) (oj : Oper), l[j]? = some oj → (listed.setIfInBounds i true).getD j false = true → ∀ e ∈ oj.after.toList, Region.binds .any e = true → (listed.setIfInBounds i true).getD e.on false = true := by
      intro j oj hj hlj e he hb
      by_cases hij : i = j
      · subst hij
        obtain rfl : o = oj := by rw [ho'] at hj; exact Option.some.inj hj
        exact getD_set_mono (haft' e he hb)
      · rw [getD_set_ne false hij] at hlj
        exact getD_set_mono (hcl j oj hj hlj e he hb)
    have hself : (listed.setIfInBounds i true).getD i false = true := getD_set_self (by omega)
    have hunF : listed.getD i false = false := by
      rw [getD_ft (by omega)]; simpa using hun
    unfold wpOp
    rw [ho]
    simp only [Region.wanted, hg, if_true]
    -- a step of the tail
    have htailstep : ∀ k, n0 ≤ k → (∀ j, j < k → listed.getD j false = true) → (∀ j, k ≤ j → j < l.length → listed.getD j false = false) → k ≤ i → seqUpon P (Q .normal) (l.drop k) A w' → o.wp P A w' (fun a' w2 => (listed.setIfInBounds i true).size = l.length ∧ (∀ (j : Nat) (o : Oper), l[j]? = some o → (listed.setIfInBounds i true).getD j false = true → ∀ e ∈ o.after.toList, Region.binds .any e = true → (listed.setIfInBounds i true).getD e.on false = true) ∧
      (((∀ k, n0 ≤ k → k < l.length → (listed.setIfInBounds i true).getD k false = false) ∧ L w w2 ∧ a'.defers = a.defers ∧ a'.tmps.size = a.tmps.size ∧ (∀ t, a.tmps[t]? ≠ a'.tmps[t]? → ∃ (i_1 : Nat) (o : Oper), l[i_1]? = some o ∧ o.dst = some t ∧ (listed.setIfInBounds i true).getD i_1 false = true) ∧
      (∀ i_1 d R, (i_1, d, R) ∈ T → (listed.setIfInBounds i true).getD i_1 false = true → R w2 (a'.eval (.tmp d))) ∧ ((listed.setIfInBounds i true).getD j0 false = false → J w2) ∧ ((listed.setIfInBounds i true).getD j0 false = true → J1 w2)) ∨ (∃ k, n0 < k ∧ k ≤ l.length ∧ (∀ i_1, i_1 < k → (listed.setIfInBounds i true).getD i_1 false = true) ∧ (∀ i_1, k ≤ i_1 → i_1 < l.length → (listed.setIfInBounds i true).getD i_1 false = false) ∧ seqUpon P (Q .normal) (l.drop k) a' w2))) Q := by
      intro k hk hdone hno hki hseq
      obtain rfl : i = k := by
        rcases Nat.lt_or_ge k i with hlt | hge
        · have := tail_listed hT (by omega) ho' hcl haft' k hlt
          rw [hno k (Nat.le_refl _) (by omega)] at this
          cases this
        · omega
      have hdc : l.drop i = o :: l.drop (i + 1) := by
        rw [List.drop_eq_getElem_cons hil]
        congr 1
        have := List.getElem?_eq_getElem hil
        rw [ho'] at this
        exact (Option.some.inj this).symm
      rw [hdc] at hseq
      simp only [seqUpon] at hseq
      refine last_upon hseq fun v w2 hv => ⟨by simpa using hsz, hcl', .inr ⟨i + 1, by omega, by omega, fun j hj => ?_, fun j hj hjl => ?_, hv⟩⟩
      · by_cases hji : i = j
        · subst hji; exact hself
        · exact getD_set_mono (hdone j (by omega))
      · rw [getD_set_ne false (by omega)]; exact hno j (by omega) hjl
    rcases hI with ⟨hno, hbel, hdef, hts, hdiff, hall, hJ, hJ1⟩ | ⟨k, hk0, hkl, hdone, hno, hseq⟩
    · by_cases hil1 : i < n0
      · obtain ⟨R, hmono, huniq, hob⟩ := hobl i o ho' hil1
        simp only [Nat.zero_add] at huniq hmono hob
        have hstep : ∀ v w2, (L w' w2) → (∀ k d R', (k, d, R') ∈ T → i ≠ k → listed.getD k false = true → R' w2 (A.eval (.tmp d))) → R w2 v → ((listed.setIfInBounds i true).getD j0 false = false → J w2) → ((listed.setIfInBounds i true).getD j0 false = true → J1 w2) → (listed.setIfInBounds i true).size = l.length ∧ (∀ (j : Nat) (o : Oper), l[j]? = some o → (listed.setIfInBounds i true).getD j false = true → ∀ e ∈ o.after.toList, Region.binds .any e = true → (listed.setIfInBounds i true).getD e.on false = true) ∧
      (((∀ k, n0 ≤ k → k < l.length → (listed.setIfInBounds i true).getD k false = false) ∧ L w w2 ∧ (A.put o.dst v).defers = a.defers ∧ (A.put o.dst v).tmps.size = a.tmps.size ∧ (∀ t, a.tmps[t]? ≠ (A.put o.dst v).tmps[t]? → ∃ (i_1 : Nat) (o : Oper), l[i_1]? = some o ∧ o.dst = some t ∧ (listed.setIfInBounds i true).getD i_1 false = true) ∧
      (∀ i_1 d R, (i_1, d, R) ∈ T → (listed.setIfInBounds i true).getD i_1 false = true → R w2 ((A.put o.dst v).eval (.tmp d))) ∧ ((listed.setIfInBounds i true).getD j0 false = false → J w2) ∧ ((listed.setIfInBounds i true).getD j0 false = true → J1 w2)) ∨ (∃ k, n0 < k ∧ k ≤ l.length ∧ (∀ i_1, i_1 < k → (listed.setIfInBounds i true).getD i_1 false = true) ∧ (∀ i_1, k ≤ i_1 → i_1 < l.length → (listed.setIfInBounds i true).getD i_1 false = false) ∧ seqUpon P (Q .normal) (l.drop k) (A.put o.dst v) w2)) := by
          intro v w2 hb2 hkeep hR hJ2 hJ3
          refine ⟨by simpa using hsz, hcl', .inl ⟨fun k hk hkl => ?_, htr _ _ _ hbel hb2, ?_, ?_, ?_, ?_, hJ2, hJ3⟩⟩
          · rw [getD_set_ne false (by omega)]; exact hno k hk hkl
          · rw [← hdef]; unfold Act.put; split <;> rfl
          · rw [← hts]; unfold Act.put; split <;> simp
          · intro t ht
            by_cases hdt : o.dst = some t
            · exact ⟨i, o, ho', hdt, hself⟩
            · refine (hdiff t fun he => ht ?_).imp fun j => Exists.imp fun oj h => ⟨h.1, h.2.1, getD_set_mono h.2.2⟩
              rw [he]
              unfold Act.put
              split
              · rename_i t' ht'
                have : t' ≠ t := fun e => hdt (by rw [ht', e])
                rw [Array.getElem?_setIfInBounds_ne this]
              · rfl
          · intro k d R' hmem hk
            have hk1 : k < n0 := by simpa using hlen k d R' hmem
            by_cases hki : i = k
            · subst hki
              obtain ⟨hod, rfl⟩ := huniq d R' hmem
              rw [eval_put_eq hod (by rw [hts]; exact (hd d hod).1)]
              exact hR
            · have hk' : listed.getD k false = true := by rw [getD_set_ne false hki] at hk; exact hk
              have hkl : k < l.length := by omega
              have hko : l[k]? = some l[k] := by simp [hkl]
              obtain ⟨R2, hmono2, huniq2, -⟩ := hobl k l[k] hko hk1
              simp only [Nat.zero_add] at huniq2
              obtain ⟨hod, -⟩ := huniq2 d R' hmem
              have hne : o.dst ≠ some d := fun hd0 => by
                rcases Nat.lt_or_gt_of_ne hki with h | h
                · exact (hd d hd0).2 k l[k] hko h hod
                · exact ((flowB_spec hB k l[k] hko).2 d hod).2 i o ho' h hd0
              rw [eval_put_ne hne]
              exact hkeep k d R' hmem hki hk'
        have hbase : baseF A a bs := baseF_of fun t ht => by
          have h1 := List.all_eq_true.1 hbs t ht
          have h2 : ∀ o ∈ l.take n0, o.dst ≠ some t := fun o ho => by simpa using List.all_eq_true.1 h1 o ho
          have h3 : a.tmps[t]? = A.tmps[t]? := Classical.byContradiction fun hne => by
            obtain ⟨j, oj, hj, hdj, hlj⟩ := hdiff t hne
            have hjl : j < l.length := (List.getElem?_eq_some_iff.1 hj).1
            have hj1 : j < n0 := by
              by_cases hjj : j < n0
              · exact hjj
              · rw [hno j (by omega) hjl] at hlj; cases hlj
            exact h2 oj (List.mem_of_getElem? ((htake j hj1).trans hj)) hdj
          simp only [Act.eval, Array.getD_eq_getD_getElem?, h3]
        have hobA := hob A w' hbel (fun e => hJ (by rw [← e]; exact hunF)) hbase fun e he hb d R hmem => hall _ d R hmem (haft' e he hb)
        -- the facts of the others are kept
        have hkeepL : ∀ w2, L w' w2 → (∀ k d R', (k, d, R') ∈ T → i ≠ k → k ≠ j0 → listed.getD k false = true → R' w2 (A.eval (.tmp d))) := by
          intro w2 hb2 k d R' hmem hki hkj hk'
          have hk1 : k < n0 := by simpa using hlen k d R' hmem
          have hkl : k < l.length := by omega
          obtain ⟨R2, hmono2, huniq2, -⟩ := hobl k l[k] (by simp [hkl]) hk1
          simp only [Nat.zero_add] at huniq2 hmono2
          obtain ⟨-, rfl⟩ := huniq2 d R' hmem
          rw [if_neg hkj] at hmono2
          exact hmono2 _ _ _ (hall k d R' hmem hk') hb2
        by_cases hij : i = j0
        · rw [if_pos hij] at hobA
          exact .inl (flow_uponL hobA fun v w2 hb2 hR => hstep v w2 hb2 (fun k d R' hmem hki hk' => hkeepL w2 hb2 k d R' hmem hki (by omega) hk') hR.1 (fun h => by rw [← hij, hself] at h; cases h) (fun _ => hR.2 hij))
        · rw [if_neg hij] at hobA
          refine .inl (flow_uponL hobA fun v w2 hb2 hR => hstep v w2 (hML _ _ hb2) (fun k d R' hmem hki hk' => ?_) hR.1 (fun h => hJM _ _ (hJ (by rwa [getD_set_ne false hij] at h)) hb2) (fun h => hJ1M _ _ (hJ1 (by rwa [getD_set_ne false hij] at h)) hb2))
          by_cases hkj : k = j0
          · have hk1 : k < n0 := by simpa using hlen k d R' hmem
            have hkl : k < l.length := by omega
            obtain ⟨R2, hmono2, huniq2, -⟩ := hobl k l[k] (by simp [hkl]) hk1
            simp only [Nat.zero_add] at huniq2 hmono2
            obtain ⟨-, rfl⟩ := huniq2 d R' hmem
            rw [if_pos hkj] at hmono2
            exact hmono2 _ _ _ (hall k d R' hmem hk') hb2
          · exact hkeepL w2 (hML _ _ hb2) k d R' hmem hki hkj hk'
      · have hdone : ∀ j, j < n0 → listed.getD j false = true := fun j hj => tail_listed hT (by omega) ho' hcl haft' j (by omega)
        exact .inl (htailstep n0 (Nat.le_refl _) hdone hno (by omega) (hframe A w' listed hdone hno hbel hdef hts hdiff hall hJ1))
    · have hki : k ≤ i := by
        rcases Nat.lt_or_ge i k with hlt | hge
        · rw [hdone i hlt] at hunF; cases hunF
        · exact hge
      exact .inl (htailstep k (by omega) hdone hno hki hseq)
  · rintro listed A w' ⟨hsz, hcl, hI⟩ hno
    have hdone : ∀ k, k < l.length → listed.getD k false = true := by
      intro k
      induction k using Nat.strongRecOn with
      | _ k ih =>
        intro hk
        refine Classical.byContradiction fun hf => hno k (mem_ready.2 ⟨?_, l[k], by simp [hk], fun e he hb => ?_⟩)
        · have hks : k < listed.size := by omega
          simp only [Array.getD_eq_getD_getElem?, Array.getElem?_eq_getElem hks, Option.getD_some] at hf ⊢
          simpa using hf
        · have hlt := flowO_spec hO k l[k] (by simp [hk]) e (by simpa using he) hb
          exact ih e.on (by omega) (by omega)
    rcases hI with ⟨hnl, hbel, hdef, hts, hdiff, hall, -, hJ1⟩ | ⟨k, hk0, hkl, -, hnl, hseq⟩
    · have hnn : n0 = l.length := by
        rcases Nat.lt_or_ge n0 l.length with h | h
        · have := hnl n0 (Nat.le_refl _) h
          rw [hdone n0 h] at this; cases this
        · omega
      have := hframe A w' listed (fun k hk => hdone k (by omega)) hnl hbel hdef hts hdiff hall hJ1
      rw [hnn, List.drop_length] at this
      exact this
    · have hkk : k = l.length := by
        rcases Nat.lt_or_ge k l.length with h | h
        · have := hnl k (Nat.le_refl _) h
          rw [hdone k h] at this; cases this
        · omega
      rw [hkk, List.drop_length] at hseq
      exact hseq
  · rintro listed A w' i ⟨hsz, -⟩ hi
    obtain ⟨hun, o, ho, -⟩ := mem_ready.1 hi
    have hil : i < listed.size := by have := (Array.getElem?_eq_some_iff.1 ho).1; simp at this; omega
    simp only [Array.toList_setIfInBounds]
    refine unl_set _ _ ?_
    simp only [Array.getD_eq_getD_getElem?, Array.getElem?_eq_getElem hil, Option.getD_some] at hun
    simp [hil, hun]
  · simp [unl_rep]
  · refine ⟨by simp, fun j o _ hl => ?_, .inl ⟨fun k hk hkl => ?_, hdr w, rfl, rfl, fun t ht => absurd rfl ht, fun i d R _ hl => ?_, fun _ => hJ0, fun hl => ?_⟩⟩
    · simp [Array.getD_eq_getD_getElem?, Array.getElem?_replicate] at hl; split at hl <;> simp at hl
    · simp [Array.getD_eq_getD_getElem?, Array.getElem?_replicate]; split <;> simp
    · simp [Array.getD_eq_getD_getElem?, Array.getElem?_replicate] at hl; split at hl <;> simp at hl
    · simp [Array.getD_eq_getD_getElem?, Array.getElem?_replicate] at hl; split at hl <;> simp at hl

section
variable {w : World} {a : Act} {bs : List Nat} {Q : Exit → Act → World → Prop} {l0 rest : List Oper} {n0 m i : Nat} {T : FTab} {d : Tmp} {op : Op} {ty : TypeId} {pos : String} {es : Array Edge} {g : Option (Nat × Bool)}
theorem flowT_valE (hij : i ≠ j0)
    (h : ∃ e, (∀ A w', L w w' → baseF A a bs → deps T A w' es.toList → flowUponL P M (fun _ v => v = e) w' ((execOp A.eval ⟨some d, op, ty, pos, es, g⟩).run P w')) ∧
      FlowT P L M J J1 j0 w a bs Q l0 n0 m rest (i + 1) ((i, d, fun _ v => v = e) :: T)) : FlowT P L M J J1 j0 w a bs Q l0 n0 (m + 1) (⟨some d, op, ty, pos, es, g⟩ :: rest) i T := by
  obtain ⟨e, h, k⟩ := h
  exact ⟨_, by rw [if_neg hij]; exact fun _ _ _ h _ => h, by rw [if_neg hij]; exact fun A w' hl _ hb hd => flowUponL_imp (h A w' hl hb hd) (fun _ _ hr => ⟨hr, fun e => absurd e hij⟩), k⟩
theorem flowT_R (hij : i ≠ j0) (R : VPred) (hm : VMonoL L R)
    (h : ∀ A w', L w w' → baseF A a bs → deps T A w' es.toList → flowUponL P M R w' ((execOp A.eval ⟨some d, op, ty, pos, es, g⟩).run P w'))
    (k : FlowT P L M J J1 j0 w a bs Q l0 n0 m rest (i + 1) ((i, d, R) :: T)) : FlowT P L M J J1 j0 w a bs Q l0 n0 (m + 1) (⟨some d, op, ty, pos, es, g⟩ :: rest) i T := ⟨R, by rw [if_neg hij]; exact hm, by rw [if_neg hij]; exact fun A w' hl _ hb hd => flowUponL_imp (h A w' hl hb hd) (fun _ _ hr => ⟨hr, fun e => absurd e hij⟩), k⟩
theorem flowT_row (hij : i = j0) (R : VPred) (hm : VMonoL M R)
    (h : ∀ A w', L w w' → J w' → baseF A a bs → deps T A w' es.toList → flowUponL P L (fun W u => R W u ∧ J1 W) w' ((execOp A.eval ⟨some d, op, ty, pos, es, g⟩).run P w'))
    (k : FlowT P L M J J1 j0 w a bs Q l0 n0 m rest (i + 1) ((i, d, R) :: T)) : FlowT P L M J J1 j0 w a bs Q l0 n0 (m + 1) (⟨some d, op, ty, pos, es, g⟩ :: rest) i T := ⟨R, by rw [if_pos hij]; exact hm, by rw [if_pos hij]; exact fun A w' hl hj hb hd => flowUponL_imp (h A w' hl (hj hij) hb hd) (fun _ _ hr => ⟨hr.1, fun _ => hr.2⟩), k⟩
theorem flowT_store {ty : TypeId} (hij : i = j0)
    (h : ∀ A w', L w w' → J w' → baseF A a bs → deps T A w' es.toList → flowUponL P L (fun W _ => J1 W) w' ((execOp A.eval ⟨none, op, ty, pos, es, g⟩).run P w'))
    (k : FlowT P L M J J1 j0 w a bs Q l0 n0 m rest (i + 1) T) : FlowT P L M J J1 j0 w a bs Q l0 n0 (m + 1) (⟨none, op, ty, pos, es, g⟩ :: rest) i T := ⟨fun _ _ => True, by rw [if_pos hij]; exact fun _ _ _ _ _ => trivial, by rw [if_pos hij]; exact fun A w' hl hj hb hd => flowUponL_imp (h A w' hl (hj hij) hb hd) (fun _ _ hr => ⟨trivial, fun _ => hr⟩), k⟩
theorem flowT_tail
    (h : ∀ x w', L w w' → allT x w' T → (j0 < n0 → J1 w') → SeqUpon P (Q .normal) rest (frameOf x (l0.take n0) 0 a) w') : FlowT P L M J J1 j0 w a bs Q l0 n0 0 rest i T := h
end
end
end Go.Proofs.Ytofikijbmgejkaa
end

/-! ### YtofikijbmgejkaaDecS -/
section
namespace Go.Proofs.Ytofikijbmgejkaa
open Go.RowKit Go.Proofs.YtofikijbmgejkaaW.PrintWords PFnExactDecode
set_option linter.unusedSimpArgs false
set_option linter.unusedVariables false

/-! spec.Decode at any text. (own) -/
theorem spec_ReadEntryF (t : ByteArray) (w : World) (ht : t.size ≤ 1048576) :
    Calls Try.prog 64 #[.string t] w fun e w' => e = .returned (.tuple #[.int .i64 (rentS t).2.1, .agg #[.int .i64 (rentS t).2.2.f0, .int .i64 (rentS t).2.2.f1, .string (rentS t).2.2.f2], .bool (rentS t).1]) ∧ Below w.heap.size w w' := by
  rcases h1 : rdTake t 0 false 1 with ⟨t1, p1, q1⟩
  rcases h2 : rdNum t p1 q1 with ⟨ix, p2, q2⟩
  rcases h3 : rdNum t p2 q2 with ⟨tm, p3, q3⟩
  rcases h4 : rdTake t p3 q3 1 with ⟨k4, p4, q4⟩
  have hw := spec_ReadEntry t ht t1 k4 (t.extract p4.toNat t.size) _ ix tm (bt k4 0) p1 p2 p3 p4 q1 q2 q3 q4 _ _ w (Lib.hid h1) (Lib.hid h2) (Lib.hid h3) (Lib.hid h4) (Lib.hid rfl) (Lib.hid rfl) (Lib.hid rfl) (Lib.hid rfl) rfl
  refine hw.mono ?_
  rintro e w' ⟨rfl, hb⟩
  refine ⟨?_, hb⟩
  unfold rentS rentW
  simp only [h1, h2, h3, h4]
  cases q4 with
  | true => rfl
  | false =>
    simp only [Bool.not_false, Bool.true_and, Bool.false_eq_true, if_false]
    cases (entryOkI ix tm (bt k4 0) (t.extract p4.toNat t.size) && (entryT ix tm (bt k4 0) (t.extract p4.toNat t.size)).toList == t.toList) <;> rfl
theorem rentS_size (t : ByteArray) : (rentS t).2.2.f2.size ≤ t.size := by
  unfold rentS
  simp only
  split
  · exact Nat.zero_le _
  · split
    · simp only [ByteArray.size_extract]; omega
    · exact Nat.zero_le _
theorem sReadConfH (s : ByteArray) (cf : List Int) (b : Bool) (w : World) (h : Hid (readConf s = (cf, b))) (hs : s.size ≤ 1048576) :
    Calls Try.prog 66 #[.string s] w fun e w' => ∃ v, e = .returned (.tuple #[v, .bool b]) ∧ Kd.R (Kd.int .i64) 3 w' w.heap.size (fun _ => True) v cf ∧ Below w.heap.size w w' := by
  have hf := PFnExactDecode.sread_f s (s.size + s.size + 2) (by omega) (by omega)
  rw [h.out] at hf
  exact PFnExactDecode.spec_ReadConf.calls (s.size + s.size + 2) s cf b w hf

set_option maxHeartbeats 4000000 in
set_option maxRecDepth 100000 in
theorem spec_Decode_no (s : ByteArray) (hs : s.size ≤ 1048576) (hd : ByteArray) (p2 : Int) (w : World) (h0 : Hid (rdTake s 0 false 3 = (hd, p2, true))) :
    Calls Try.prog 29 #[.string s] w fun e w' => DecBack w w' e false 0 0 0 0 0 0 0 false [] [] ⟨#[]⟩ false := by
  have g : 0 ≤ (0 : Int) ∧ (0 : Int) ≤ s.size := by omega
  have hs1 : s.size ≤ 1099511627776 := by omega
  go_enter Try.func29, Try.ntmps29
  go_wp2_with fail
  refine calls_at' (fun W => Blk 57 w.heap.size #[.int .i64 0, .int .i64 0, .int .i64 0, .int .i64 0, .int .i64 0, .int .i64 0, .int .i64 0, .bool false, .slice none 0 0, .slice none 0 0, .string ⟨#[]⟩, .bool false] W ∧ Rd 101 (w.heap.size + 1) s 0 false W ∧ Below w.heap.size w W) ⟨(Blk.new _ _ w).alloc _, by have := Rd.new 101 s 0 false (w.alloc (.cells #[.int .i64 0, .int .i64 0, .int .i64 0, .int .i64 0, .int .i64 0, .int .i64 0, .int .i64 0, .bool false, .slice none 0 0, .slice none 0 0, .string ⟨#[]⟩, .bool false] 57)); simpa using this, (by repeat (first | exact Below.refl _ _ | apply bl_alloc | apply bl_drewN | apply bl_drew | refine bl_set ?_ (by simp) | refine bl_then ?_ (by assumption)))⟩ ?_
  rintro W0 ⟨k2, R0, B0⟩
  refine (stakeH _ _ _ _ _ _ _ _ _ h0 hs1 g (by omega) R0).mono ?_
  rintro e W1 ⟨rfl, R1, U1⟩
  replace k2 := k2.upd U1 (by omega)
  have B1 := U1.below B0 (by omega)
  clear R0 U1 B0 W0
  obtain ⟨rc0, rc1, rc2, rcf⟩ := R1.cells
  have rl := R1.lt
  have y0 := k2.cell 0 rfl
  have y1 := k2.cell 1 rfl
  have y2 := k2.cell 2 rfl
  have y3 := k2.cell 3 rfl
  have y4 := k2.cell 4 rfl
  have y5 := k2.cell 5 rfl
  have y6 := k2.cell 6 rfl
  have y7 := k2.cell 7 rfl
  have y8 := k2.cell 8 rfl
  have y9 := k2.cell 9 rfl
  have y10 := k2.cell 10 rfl
  have y11 := k2.cell 11 rfl
  have yf : ∀ o, _ := fun o => k2.free o
  have yl := k2.lt
  go_wp2_with fail
  refine bodyPost_ret (v := .tuple #[.agg #[.int .i64 0, .int .i64 0, .int .i64 0, .int .i64 0, .int .i64 0, .int .i64 0, .int .i64 0, .bool false, .slice none 0 0, .slice none 0 0, .string ⟨#[]⟩, .bool false], .bool false]) ?_ rfl ⟨⟨.slice none 0 0, .slice none 0 0, rfl, Kd.R_nil _ _ _ _ _, Kd.R_nil _ _ _ _ _⟩, ?_⟩
  · simp only [results, Try.results29]
    go_simp
  · iterate 12 refine bl_set ?_ (Nat.le_refl _)
    exact B1

set_option maxHeartbeats 4000000 in
set_option maxRecDepth 100000 in
theorem spec_Decode (s : ByteArray) (hs : s.size ≤ 1048576) (hd : ByteArray) (a0 a1 a2 a3 a4 a5 a6 n p2 p3 p4 p5 p6 p7 p8 p9 p10 p11 p12 : Int) (a7 ls q3 q4 q5 q6 q7 q8 q9 q10 q11 q12 : Bool) (es : List S105) (t7 t8 ct d : ByteArray) (cf : List Int) (fine : Bool) (w : World)
    (h0 : Hid (rdTake s 0 false 3 = (hd, p2, false))) (k0 : Hid (bt hd 0 = a0)) (k1 : Hid (bt hd 1 = a1)) (k2' : Hid (bt hd 2 = a2)) (h3 : Hid (rdNum s p2 false = (a3, p3, q3))) (h4 : Hid (rdNum s p3 q3 = (a4, p4, q4))) (h5 : Hid (rdNum s p4 q4 = (a5, p5, q5))) (h6 : Hid (rdNum s p5 q5 = (a6, p6, q6)))
    (h7 : Hid (rdTake s p6 q6 1 = (t7, p7, q7))) (h7b : (t7.toList == [1]) = a7) (h8 : Hid (rdTake s p7 q7 1 = (t8, p8, q8))) (h8b : (t8.toList == [1]) = ls) (h9 : Hid (rdNum s p8 q8 = (n, p9, q9))) (h10 : Hid (sRun s n 6 0 p9 q9 [] = (p10, q10, es))) (h11 : Hid (rdShort s p10 q10 = (ct, p11, q11))) (hcf : Hid (readConf ct = (cf, fine))) (h12 : Hid (rdShort s p11 q11 = (d, p12, q12)))
    (mk sm : Bool) (hmk : Hid (msgB a0 a1 a2 a3 a4 a5 a6 es cf d ls = mk)) (hsm : Hid (((encS a0 a1 a2 a3 a4 a5 a6 a7 es cf d ls).toList == s.toList) = sm)) (hSE : Short es) (hEl : es.length ≤ 5) (hCl : cf.length ≤ 1048576) :
    Calls Try.prog 29 #[.string s] w fun e w' => DecBack w w' e (!q12 && (mk && sm)) a0 a1 a2 a3 a4 a5 a6 a7 es cf d ls := by
  have g : 0 ≤ (0 : Int) ∧ (0 : Int) ≤ s.size := by omega
  have r2 := take_r h0.out (by omega) g
  have r3 := num_r h3.out ⟨r2.1, r2.2.1⟩
  have r4 := num_r h4.out ⟨r3.1, r3.2.1⟩
  have r5 := num_r h5.out ⟨r4.1, r4.2.1⟩
  have r6 := num_r h6.out ⟨r5.1, r5.2.1⟩
  have r7 := take_r h7.out (by omega) ⟨r6.1, r6.2.1⟩
  have r8 := take_r h8.out (by omega) ⟨r7.1, r7.2.1⟩
  have r9 := num_r h9.out ⟨r8.1, r8.2.1⟩
  have hs1 : s.size ≤ 1099511627776 := by omega
  have hhd := take_size h0.out (by omega) g
  go_enter Try.func29, Try.ntmps29
  go_wp2_with fail
  refine calls_at' (fun W => Blk 57 w.heap.size #[.int .i64 0, .int .i64 0, .int .i64 0, .int .i64 0, .int .i64 0, .int .i64 0, .int .i64 0, .bool false, .slice none 0 0, .slice none 0 0, .string ⟨#[]⟩, .bool false] W ∧ Rd 101 (w.heap.size + 1) s 0 false W ∧ Below w.heap.size w W) ⟨(Blk.new _ _ w).alloc _, by have := Rd.new 101 s 0 false (w.alloc (.cells #[.int .i64 0, .int .i64 0, .int .i64 0, .int .i64 0, .int .i64 0, .int .i64 0, .int .i64 0, .bool false, .slice none 0 0, .slice none 0 0, .string ⟨#[]⟩, .bool false] 57)); simpa using this, (by repeat (first | exact Below.refl _ _ | apply bl_alloc | apply bl_drewN | apply bl_drew | refine bl_set ?_ (by simp) | refine bl_then ?_ (by assumption)))⟩ ?_
  rintro W0 ⟨k2, R0, B0⟩
  refine (stakeH _ _ _ _ _ _ _ _ _ h0 hs1 g (by omega) R0).mono ?_
  rintro e W1 ⟨rfl, R1, U1⟩
  replace k2 := k2.upd U1 (by omega)
  have B1 := U1.below B0 (by omega)
  clear R0 U1 B0 W0
  obtain ⟨rc0, rc1, rc2, rcf⟩ := R1.cells
  have l1 := R1.lt
  go_upto_region 5 with fail
  clear rc0 rc1 rc2 rcf
  have hx : ∀ (j : Nat) (h : j < hd.size) (x : Int), bt hd (j : Int) = x → wrap64 ((hd[j]'h).toNat : Int) = x := fun j h x e => by
    have hr := bt_range hd (j : Int)
    rw [e] at hr
    unfold bt at e
    rw [dif_pos (by simpa using h)] at e
    have e2 : ((hd[j]'h).toNat : Int) = x := by simpa using e
    rw [e2]
    unfold wrap64
    omega
  have hx0 : ∀ h : 0 < hd.size, wrap64 ((hd[0]'h).toNat : Int) = a0 := fun h => hx 0 h a0 k0.out
  have hx1 : ∀ h : 1 < hd.size, wrap64 ((hd[1]'h).toNat : Int) = a1 := fun h => hx 1 h a1 k1.out
  have hx2 : ∀ h : 2 < hd.size, wrap64 ((hd[2]'h).toNat : Int) = a2 := fun h => hx 2 h a2 k2'.out
  have hy0 : ∀ h : 0 < hd.size, IntKind.i64.wrap ((hd[0]'h).toNat : Int) = a0 := fun h => by have e := hx0 h; unfold wrap64 at e; rw [IntKind.wrap_i64]; omega
  have hy1 : ∀ h : 1 < hd.size, IntKind.i64.wrap ((hd[1]'h).toNat : Int) = a1 := fun h => by have e := hx1 h; unfold wrap64 at e; rw [IntKind.wrap_i64]; omega
  have hy2 : ∀ h : 2 < hd.size, IntKind.i64.wrap ((hd[2]'h).toNat : Int) = a2 := fun h => by have e := hx2 h; unfold wrap64 at e; rw [IntKind.wrap_i64]; omega
  have hz3 : (hd.size : Int) = 3 := hhd.1
  clear hx
  have hz0 : (0 : Int) < (hd.size : Int) := by omega
  have hz1 : (1 : Int) < (hd.size : Int) := by omega
  have hz2 : (2 : Int) < (hd.size : Int) := by omega
  refine wp_region_flowT (L := fun a b => Below a.heap.size a b) (M := fun a b => Below a.heap.size a b) (J := fun _ => True) (J1 := fun _ => True) 100 trivial (fun _ _ _ _ => trivial) (fun _ _ _ _ => trivial) (fun _ _ h => h) (fun w => bl_drew (Below.refl _ _)) (fun a b c h k => bl_then h k) [5] 115 11 (by kernel_rfl) (by rfl) (by kernel_rfl) (by kernel_rfl) (by kernel_rfl) (by kernel_rfl) ?_
  iterate 10 (refine flowT_valE (by decide) ?_; apply Exists.intro; refine ⟨fun A wq hLq hbq hdq => ?_, ?_⟩; focus ((try simp [go_sem, baseF, deps, dep1, Region.binds] at hbq); (try simp [go_sem, baseF, deps, dep1, Region.binds] at hdq); go_simp; first | exact ⟨Below.refl _ _, rfl⟩ | (fail)))
  refine flowT_R (by decide) (fun W u => ∃ b : Nat, u = .pointer (some ⟨b, 0, none⟩) ∧ W1.heap.size ≤ b ∧ Blk 57 b #[.int .i64 0, .int .i64 0, .int .i64 0, .int .i64 0, .int .i64 0, .int .i64 0, .int .i64 0, .bool false, .slice none 0 0, .slice none 0 0, .string ⟨#[]⟩, .bool false] W) (fun W W' u ⟨b, e, hb, hk⟩ hL => ⟨b, e, hb, hk.below hL⟩) (fun A wr hLq hbq hdq => ?_) ?_
  · have hlz := hLq.size
    (try simp [go_sem, baseF, deps, dep1, Region.binds] at hbq)
    (try simp [go_sem, baseF, deps, dep1, Region.binds] at hdq)
    go_simp
    first
      | exact ⟨bl_alloc (Below.refl _ _) _, wr.heap.size, rfl, by omega, Blk.new _ _ wr⟩
      | exact ⟨bl_alloc (Below.refl _ _) _, by omega, Blk.new _ _ wr⟩
      | exact ⟨bl_alloc (Below.refl _ _) _, Blk.new _ _ wr⟩
  with_reducible refine flowT_tail ?_
  intro x wr hLq hall _
  simp only [allT] at hall
  obtain ⟨⟨b, h10x, hbx, k6⟩, h9x, hall⟩ := hall
  have lb := k6.lt
  have e0 := k6.cell 0 rfl
  have f0 := k6.free 0
  have e1 := k6.cell 1 rfl
  have f1 := k6.free 1
  have e2 := k6.cell 2 rfl
  have f2 := k6.free 2
  have e3 := k6.cell 3 rfl
  have f3 := k6.free 3
  have e4 := k6.cell 4 rfl
  have f4 := k6.free 4
  have e5 := k6.cell 5 rfl
  have f5 := k6.free 5
  have e6 := k6.cell 6 rfl
  have f6 := k6.free 6
  have e7 := k6.cell 7 rfl
  have f7 := k6.free 7
  have e8 := k6.cell 8 rfl
  have f8 := k6.free 8
  have e9 := k6.cell 9 rfl
  have f9 := k6.free 9
  have e10 := k6.cell 10 rfl
  have f10 := k6.free 10
  have e11 := k6.cell 11 rfl
  have f11 := k6.free 11
  refine ⟨?_⟩
  simp [seqUpon, lastUpon, frameOf, Act.put, List.take, h10x, h9x, hall]
  clear hall h10x h9x
  go_simp
  have D : DAt 101 w s p2 false b #[.int .i64 0, .int .i64 0, .int .i64 0, .int .i64 0, .int .i64 0, .int .i64 0, .int .i64 0, .bool false, .slice none 0 0, .slice none 0 0, .string ⟨#[]⟩, .bool false] wr := ⟨k2.below hLq, R1.below hLq, bl_then B1 hLq, k6, by omega⟩
  have D1 := D.set (o := 0) (v := .int .i64 a0) (cs' := #[.int .i64 a0, .int .i64 0, .int .i64 0, .int .i64 0, .int .i64 0, .int .i64 0, .int .i64 0, .bool false, .slice none 0 0, .slice none 0 0, .string ⟨#[]⟩, .bool false]) rfl
  have D2 := D1.set (o := 1) (v := .int .i64 a1) (cs' := #[.int .i64 a0, .int .i64 a1, .int .i64 0, .int .i64 0, .int .i64 0, .int .i64 0, .int .i64 0, .bool false, .slice none 0 0, .slice none 0 0, .string ⟨#[]⟩, .bool false]) rfl
  have D3 := D2.set (o := 2) (v := .int .i64 a2) (cs' := #[.int .i64 a0, .int .i64 a1, .int .i64 a2, .int .i64 0, .int .i64 0, .int .i64 0, .int .i64 0, .bool false, .slice none 0 0, .slice none 0 0, .string ⟨#[]⟩, .bool false]) rfl
  have D4 := D3.set (o := 3) (v := .int .i64 0) (cs' := #[.int .i64 a0, .int .i64 a1, .int .i64 a2, .int .i64 0, .int .i64 0, .int .i64 0, .int .i64 0, .bool false, .slice none 0 0, .slice none 0 0, .string ⟨#[]⟩, .bool false]) rfl
  have D5 := D4.set (o := 4) (v := .int .i64 0) (cs' := #[.int .i64 a0, .int .i64 a1, .int .i64 a2, .int .i64 0, .int .i64 0, .int .i64 0, .int .i64 0, .bool false, .slice none 0 0, .slice none 0 0, .string ⟨#[]⟩, .bool false]) rfl
  have D6 := D5.set (o := 5) (v := .int .i64 0) (cs' := #[.int .i64 a0, .int .i64 a1, .int .i64 a2, .int .i64 0, .int .i64 0, .int .i64 0, .int .i64 0, .bool false, .slice none 0 0, .slice none 0 0, .string ⟨#[]⟩, .bool false]) rfl
  have D7 := D6.set (o := 6) (v := .int .i64 0) (cs' := #[.int .i64 a0, .int .i64 a1, .int .i64 a2, .int .i64 0, .int .i64 0, .int .i64 0, .int .i64 0, .bool false, .slice none 0 0, .slice none 0 0, .string ⟨#[]⟩, .bool false]) rfl
  have D8 := D7.set (o := 7) (v := .bool false) (cs' := #[.int .i64 a0, .int .i64 a1, .int .i64 a2, .int .i64 0, .int .i64 0, .int .i64 0, .int .i64 0, .bool false, .slice none 0 0, .slice none 0 0, .string ⟨#[]⟩, .bool false]) rfl
  have D9 := D8.set (o := 8) (v := .slice none 0 0) (cs' := #[.int .i64 a0, .int .i64 a1, .int .i64 a2, .int .i64 0, .int .i64 0, .int .i64 0, .int .i64 0, .bool false, .slice none 0 0, .slice none 0 0, .string ⟨#[]⟩, .bool false]) rfl
  have D10 := D9.set (o := 9) (v := .slice none 0 0) (cs' := #[.int .i64 a0, .int .i64 a1, .int .i64 a2, .int .i64 0, .int .i64 0, .int .i64 0, .int .i64 0, .bool false, .slice none 0 0, .slice none 0 0, .string ⟨#[]⟩, .bool false]) rfl
  have D11 := D10.set (o := 10) (v := .string ⟨#[]⟩) (cs' := #[.int .i64 a0, .int .i64 a1, .int .i64 a2, .int .i64 0, .int .i64 0, .int .i64 0, .int .i64 0, .bool false, .slice none 0 0, .slice none 0 0, .string ⟨#[]⟩, .bool false]) rfl
  have D12 := D11.set (o := 11) (v := .bool false) (cs' := #[.int .i64 a0, .int .i64 a1, .int .i64 a2, .int .i64 0, .int .i64 0, .int .i64 0, .int .i64 0, .bool false, .slice none 0 0, .slice none 0 0, .string ⟨#[]⟩, .bool false]) rfl
  clear e0 f0 e1 f1 e2 f2 e3 f3 e4 f4 e5 f5 e6 f6 e7 f7 e8 f8 e9 f9 e10 f10 e11 f11 lb k6 k2 R1 B1 l1 hLq hbx
  go_wp2_with fail
  refine calls_at' (DAt 101 w s p2 false b #[.int .i64 a0, .int .i64 a1, .int .i64 a2, .int .i64 0, .int .i64 0, .int .i64 0, .int .i64 0, .bool false, .slice none 0 0, .slice none 0 0, .string ⟨#[]⟩, .bool false]) D12 ?_
  clear D D1 D2 D3 D4 D5 D6 D7 D8 D9 D10 D11 D12 hx0 hx1 hx2 hy0 hy1 hy2 hz0 hz1 hz2 hz3 wr
  intro W D

  refine (svarH _ _ _ _ _ _ _ _ h3 hs1 D.2.1).mono ?_
  rintro e W' ⟨rfl, R, U⟩
  replace D := D.upd R U
  clear R U W
  have c := D.2.2.2.1.cell 3 rfl
  have f := D.2.2.2.1.free 3
  have l := D.2.2.2.1.lt
  go_wp2_with fail
  refine calls_at' (DAt 101 w s p3 q3 b #[.int .i64 a0, .int .i64 a1, .int .i64 a2, .int .i64 a3, .int .i64 0, .int .i64 0, .int .i64 0, .bool false, .slice none 0 0, .slice none 0 0, .string ⟨#[]⟩, .bool false]) (D.set rfl) ?_
  clear c f l D W'
  intro W D
  refine (svarH _ _ _ _ _ _ _ _ h4 hs1 D.2.1).mono ?_
  rintro e W' ⟨rfl, R, U⟩
  replace D := D.upd R U
  clear R U W
  have c := D.2.2.2.1.cell 4 rfl
  have f := D.2.2.2.1.free 4
  have l := D.2.2.2.1.lt
  go_wp2_with fail
  refine calls_at' (DAt 101 w s p4 q4 b #[.int .i64 a0, .int .i64 a1, .int .i64 a2, .int .i64 a3, .int .i64 a4, .int .i64 0, .int .i64 0, .bool false, .slice none 0 0, .slice none 0 0, .string ⟨#[]⟩, .bool false]) (D.set rfl) ?_
  clear c f l D W'
  intro W D
  refine (svarH _ _ _ _ _ _ _ _ h5 hs1 D.2.1).mono ?_
  rintro e W' ⟨rfl, R, U⟩
  replace D := D.upd R U
  clear R U W
  have c := D.2.2.2.1.cell 5 rfl
  have f := D.2.2.2.1.free 5
  have l := D.2.2.2.1.lt
  go_wp2_with fail
  refine calls_at' (DAt 101 w s p5 q5 b #[.int .i64 a0, .int .i64 a1, .int .i64 a2, .int .i64 a3, .int .i64 a4, .int .i64 a5, .int .i64 0, .bool false, .slice none 0 0, .slice none 0 0, .string ⟨#[]⟩, .bool false]) (D.set rfl) ?_
  clear c f l D W'
  intro W D
  refine (svarH _ _ _ _ _ _ _ _ h6 hs1 D.2.1).mono ?_
  rintro e W' ⟨rfl, R, U⟩
  replace D := D.upd R U
  clear R U W
  have c := D.2.2.2.1.cell 6 rfl
  have f := D.2.2.2.1.free 6
  have l := D.2.2.2.1.lt
  go_wp2_with fail
  refine calls_at' (DAt 101 w s p6 q6 b #[.int .i64 a0, .int .i64 a1, .int .i64 a2, .int .i64 a3, .int .i64 a4, .int .i64 a5, .int .i64 a6, .bool false, .slice none 0 0, .slice none 0 0, .string ⟨#[]⟩, .bool false]) (D.set rfl) ?_
  clear c f l D W'
  intro W D
  refine (stakeH _ _ _ _ _ _ _ _ _ h7 hs1 ⟨r6.1, r6.2.1⟩ (by omega) D.2.1).mono ?_
  rintro e W' ⟨rfl, R, U⟩
  replace D := D.upd R U
  clear R U W
  have c := D.2.2.2.1.cell 7 rfl
  have f := D.2.2.2.1.free 7
  have l := D.2.2.2.1.lt
  go_wp2_with fail
  refine calls_at' (DAt 101 w s p7 q7 b #[.int .i64 a0, .int .i64 a1, .int .i64 a2, .int .i64 a3, .int .i64 a4, .int .i64 a5, .int .i64 a6, .bool a7, .slice none 0 0, .slice none 0 0, .string ⟨#[]⟩, .bool false]) (D.set rfl) ?_
  clear c f l D W'
  intro W D
  refine (stakeH _ _ _ _ _ _ _ _ _ h8 hs1 ⟨r7.1, r7.2.1⟩ (by omega) D.2.1).mono ?_
  rintro e W' ⟨rfl, R, U⟩
  replace D := D.upd R U
  clear R U W
  have c := D.2.2.2.1.cell 11 rfl
  have f := D.2.2.2.1.free 11
  have l := D.2.2.2.1.lt
  go_wp2_with fail
  refine calls_at' (DAt 101 w s p8 q8 b #[.int .i64 a0, .int .i64 a1, .int .i64 a2, .int .i64 a3, .int .i64 a4, .int .i64 a5, .int .i64 a6, .bool a7, .slice none 0 0, .slice none 0 0, .string ⟨#[]⟩, .bool ls]) (D.set rfl) ?_
  clear c f l D W'
  intro W D
  refine (svarH _ _ _ _ _ _ _ _ h9 hs1 D.2.1).mono ?_
  rintro e W' ⟨rfl, R, U⟩
  replace D := D.upd R U
  clear R U W
  go_wp2_with fail
  go_loopg [8] 7 (fun kq v8 w' => ∃ (i : Nat) (p : Int) (q : Bool) (acc : List S105) (vE : Value), v8 = .int .i64 (i : Int) ∧ i + kq = 7 ∧ i ≤ 5 ∧ Hid (sRun s n (6 - i) i p q acc = (p10, q10, es)) ∧ (0 ≤ p ∧ p ≤ s.size) ∧ acc.length = i ∧ Kd.R k105 105 w' w.heap.size (fun k => b < k) vE acc ∧ DAt 101 w s p q b #[.int .i64 a0, .int .i64 a1, .int .i64 a2, .int .i64 a3, .int .i64 a4, .int .i64 a5, .int .i64 a6, .bool a7, vE, .slice none 0 0, .string ⟨#[]⟩, .bool ls] w')
  case atStart => exact ⟨0, p9, q9, [], .slice none 0 0, rfl, by omega, by omega, h10, ⟨r9.1, r9.2.1⟩, rfl, Kd.R_nil _ _ _ _ _, D⟩
  case round =>
    clear h10 D
    obtain ⟨i, p, q, acc, vE, rfl, hik, hi5, hrun, hp, hacc, hE, D⟩ := hrel
    obtain ⟨AE, cE, hvE, hcE, -⟩ := Kd.R_reads hE
    rw [hacc] at hvE hcE
    subst hvE
    have HE := Lib.hid hE
    clear hE
    obtain ⟨m1, hm1⟩ : ∃ m1, 6 - i = m1 + 1 := ⟨6 - i - 1, by omega⟩
    rw [hm1] at hrun
    obtain ⟨rc0, rc1, rc2, rcf⟩ := D.2.1.cells
    have rl := D.2.1.lt
    go_upto_region 14 with fail
    go_cut [69] from 56 to 69 (fun v69 wx => ∃ cb : Bool, v69 = .bool cb ∧ Hid (cb = decide ((i : Int) < n ∧ q = false ∧ i ≤ 4)) ∧ DAt 101 w s p q b #[.int .i64 a0, .int .i64 a1, .int .i64 a2, .int .i64 a3, .int .i64 a4, .int .i64 a5, .int .i64 a6, .bool a7, .slice AE i cE, .slice none 0 0, .string ⟨#[]⟩, .bool ls] wx ∧ Kd.R k105 105 wx w.heap.size (fun k => b < k) (.slice AE i cE) acc)
    case first =>
      by_cases g1 : (i : Int) < n
      · cases q with
        | true =>
          go_wp2_with fail
          go_meet
          exact ⟨false, by first | rfl | simp, Lib.hid (decide_eq_false (fun h => by cases h.2.1)).symm, D, HE.out⟩
        | false =>
          by_cases g3 : (i : Int) ≤ 4
          · have g4 : i ≤ 4 := by omega
            go_wp2_with fail
            go_meet
            exact ⟨true, by first | rfl | simp [g3], Lib.hid (by simp [g1, g4]), D, HE.out⟩
          · have g4 : ¬ i ≤ 4 := by omega
            go_wp2_with fail
            go_meet
            exact ⟨false, by first | rfl | simp [g3], Lib.hid (decide_eq_false (fun h => by have := h.2.2; omega)).symm, D, HE.out⟩
      · go_wp2_with fail
        go_meet
        exact ⟨false, by first | rfl | simp [g1], Lib.hid (decide_eq_false (fun h => by have := h.1; omega)).symm, D, HE.out⟩
    case rest =>
    clear rc0 rc1 rc2 rcf rl D HE
    obtain ⟨cb, rfl, hcb, D, hE⟩ := hcut
    have HE := Lib.hid hE
    clear hE
    by_cases hlt : (i : Int) < n ∧ q = false ∧ i ≤ 4
    · obtain rfl : cb = true := by rw [hcb.out]; exact decide_eq_true hlt
      clear hcb
      obtain ⟨k1, rfl⟩ : ∃ k1, gk = k1 + 1 := ⟨gk - 1, by omega⟩
      obtain ⟨hlt1, rfl, hlt3⟩ := hlt
      have hlt3' : (i : Int) ≤ 4 := by omega
      rcases hx : rdShort s p false with ⟨t, p', q'⟩
      rcases hy : rentS t with ⟨ok, ix, ⟨e0, e1, e2⟩⟩
      have hrun' : Hid (sRun s n m1 (i + 1) p' q' (acc ++ [⟨e0, e1, e2⟩]) = (p10, q10, es)) := Lib.hid (by
        have h := hrun.out
        simp only [sRun] at h
        rw [if_pos ⟨hlt1, by first | rfl | trivial, hlt3⟩] at h
        simp only [hx, hy] at h
        exact h)
      clear hrun
      have hp' := short_r hx hp
      have hx := Lib.hid hx
      go_wp2_with fail
      refine (sshortH _ _ _ _ _ _ _ _ hx hs1 hp D.2.1).mono ?_
      rintro e W1 ⟨rfl, R, U⟩
      have HE1 := Lib.hid (own_upd HE.out U (by have := D.2.2.2.2; omega))
      replace D := D.upd R U
      clear R U HE
      go_wp2_with fail
      have hre := spec_ReadEntryF t W1 (by omega)
      rw [hy] at hre
      refine hre.mono ?_
      clear hre
      rintro e W2 ⟨rfl, hb⟩
      have HE2 := Lib.hid (Kd.R_below HE1.out hb)
      replace D := D.below hb
      clear HE1 hb W1
      go_upto_region 17 with fail
      obtain ⟨b7, hb7⟩ : ∃ b7, b7 = W2.heap.size := ⟨_, rfl⟩
      have hbl : b < W2.heap.size := D.2.2.2.1.lt
      refine wp_at' (fun X => DAt 101 w s p' q' b #[.int .i64 a0, .int .i64 a1, .int .i64 a2, .int .i64 a3, .int .i64 a4, .int .i64 a5, .int .i64 a6, .bool a7, .slice AE i cE, .slice none 0 0, .string ⟨#[]⟩, .bool ls] X ∧ Kd.R k105 105 X w.heap.size (fun k => b < k) (.slice AE i cE) acc ∧ Blk 105 b7 #[.int .i64 e0, .int .i64 e1, .string e2] X) ⟨D.below (bl_alloc (Below.refl _ _) _), Kd.R_below HE2.out (bl_alloc (Below.refl _ _) _), Blk.newE _ _ W2 hb7⟩ ?_
      rw [← hb7]
      have n7 : b < b7 := by omega
      clear hb7 hbl D HE2 W2
      rintro wc ⟨D, hE, k7⟩
      have hrow : ∀ k, (Value.slice AE i cE).ownBlock = some k → b < k := fun k hk => hE.1 k hk
      have nbv : some b ≠ (Value.slice AE i cE).ownBlock := fun e => by have := hrow b e.symm; omega
      have hwz : w.heap.size ≤ wc.heap.size := D.2.2.1.size
      have k5 := D.2.2.2.1
      have c8 := k5.cell 8 rfl
      have l5 := k5.lt
      have c70 := k7.cell 0 rfl
      have c71 := k7.cell 1 rfl
      have c72 := k7.cell 2 rfl
      have l7 := k7.lt
      have HE := Lib.hid hE
      clear hE
      go_wp2_with (first | (refine Kd.R_append (w0 := wc) k105 w.heap.size rfl (.tmp 80) (.tmp 82) 55 105 (.agg #[.int .i64 0, .int .i64 0, .string ⟨#[]⟩]) 32 rfl Try.underlying55 (by kernel_rfl) rfl (by decide) (by decide) (.slice AE i cE) acc ⟨e0, e1, e2⟩ [.int .i64 e0, .int .i64 e1, .string e2] (fun k => b < k) (fun _ => False) rfl rfl (k105_mkM wc _ _ ⟨e0, e1, e2⟩) (fun k h => h.elim) (fun k hk => by omega) HE.out (Below.refl _ _) hwz (by omega) ?_; intro v1 w1 hR1 hB1 hg1 hat1; obtain ⟨A9, c9, hv9, -, -⟩ := Kd.R_reads hR1; rw [show (acc ++ [(⟨e0, e1, e2⟩ : S105)]).length = i + 1 from by simp [hacc]] at hv9; subst hv9; have D1 := D.grown hg1 hrow; have q5 := D1.2.2.2.1; have d8 := q5.cell 8 rfl; have df := q5.free 8; have dl := q5.lt; have HR1 := Lib.hid hR1; clear hR1 c8 l5 c70 c71 c72 l7 hat1))
      have hfin1 := D1.set (o := 8) (v := .slice A9 (i + 1) c9) (cs' := #[.int .i64 a0, .int .i64 a1, .int .i64 a2, .int .i64 a3, .int .i64 a4, .int .i64 a5, .int .i64 a6, .bool a7, .slice A9 (i + 1) c9, .slice none 0 0, .string ⟨#[]⟩, .bool ls]) rfl
      have hfin2 := own_set (g := b) (o := 8) (u := .slice A9 (i + 1) c9) HR1.out (Nat.le_refl _)
      clear D1 q5 d8 df dl HR1 D k5 k7 HE
      go_roundg k1
      case measure => omega
      case rel => exact ⟨i + 1, p', q', acc ++ [⟨e0, e1, e2⟩], _, by first | rfl | simp, by omega, by omega, Lib.hid (by rw [show 6 - (i + 1) = m1 from by omega]; exact hrun'.out), ⟨hp'.1, hp'.2.1⟩, by simp [hacc], hfin2, hfin1⟩
    · have hr := hrun.out
      simp only [sRun] at hr
      rw [if_neg hlt] at hr
      simp only [Prod.mk.injEq] at hr
      obtain ⟨rfl, rfl, rfl⟩ := hr
      clear hrun
      subst hacc
      have r11 := short_r h11.out hp
      have r12 := short_r h12.out ⟨r11.1, r11.2.1⟩
      have nb := D.2.2.2.2
      obtain rfl : cb = false := by rw [hcb.out]; exact decide_eq_false hlt
      clear hcb
      go_wp2_with fail
      refine (sshortH _ _ _ _ _ _ _ _ h11 hs1 hp D.2.1).mono ?_
      rintro e W1 ⟨rfl, R, U⟩
      have HE1 := Lib.hid (own_upd HE.out U (by omega))
      replace D := D.upd R U
      clear R U HE
      go_wp2_with fail
      refine (sReadConfH ct cf fine W1 hcf (by omega)).mono ?_
      rintro e W2 ⟨vC, rfl, hC0, hb⟩
      have hbl : b < W1.heap.size := D.2.2.2.1.lt
      have hC := Kd.R_mono (Kd.R_lower (Kd.R_bound hC0) D.2.2.1.size) (ok' := fun k => b < k) (fun k hk => by have := hk.2.1; omega)
      obtain ⟨AC, cC, rfl, hcC, -⟩ := Kd.R_reads hC
      have HC1 := Lib.hid hC
      have HE2 := Lib.hid (Kd.R_below HE1.out hb)
      replace D := D.below hb
      clear HE1 hb hC hC0 hbl W1
      have c := D.2.2.2.1.cell 9 rfl
      have f := D.2.2.2.1.free 9
      have l := D.2.2.2.1.lt
      go_wp2_with fail
      refine calls_at' (fun X => DAt 101 w s p11 q11 b #[.int .i64 a0, .int .i64 a1, .int .i64 a2, .int .i64 a3, .int .i64 a4, .int .i64 a5, .int .i64 a6, .bool a7, .slice AE acc.length cE, .slice AC cf.length cC, .string ⟨#[]⟩, .bool ls] X ∧ Kd.R k105 105 X w.heap.size (fun k => b < k) (.slice AE acc.length cE) acc ∧ Kd.R (Kd.int .i64) 3 X w.heap.size (fun k => b < k) (.slice AC cf.length cC) cf) ⟨D.set rfl, own_set HE2.out (Nat.le_refl _), own_set HC1.out (Nat.le_refl _)⟩ ?_
      clear c f l D HE2 HC1 W2
      rintro W3 ⟨D, hE, hC⟩
      have HE := Lib.hid hE
      have HC := Lib.hid hC
      clear hE hC
      refine (sshortH _ _ _ _ _ _ _ _ h12 hs1 ⟨r11.1, r11.2.1⟩ D.2.1).mono ?_
      rintro e W4 ⟨rfl, R, U⟩
      replace HE := Lib.hid (own_upd HE.out U (by omega))
      replace HC := Lib.hid (own_upd HC.out U (by omega))
      replace D := D.upd R U
      clear R U W3
      have c := D.2.2.2.1.cell 10 rfl
      have f := D.2.2.2.1.free 10
      have l := D.2.2.2.1.lt
      go_upto_region 20 with fail
      refine wp_at' (fun X => DAt 101 w s p12 q12 b #[.int .i64 a0, .int .i64 a1, .int .i64 a2, .int .i64 a3, .int .i64 a4, .int .i64 a5, .int .i64 a6, .bool a7, .slice AE acc.length cE, .slice AC cf.length cC, .string d, .bool ls] X ∧ Kd.R k105 105 X w.heap.size (fun k => b < k) (.slice AE acc.length cE) acc ∧ Kd.R (Kd.int .i64) 3 X w.heap.size (fun k => b < k) (.slice AC cf.length cC) cf) ⟨D.set rfl, own_set HE.out (Nat.le_refl _), own_set HC.out (Nat.le_refl _)⟩ ?_
      clear c f l D HE HC W4
      rintro W5 ⟨D, hE, hC⟩
      have HE := Lib.hid hE
      have HC := Lib.hid hC
      clear hE hC
      have c0 := D.2.2.2.1.cell 0 rfl
      have c1 := D.2.2.2.1.cell 1 rfl
      have c2 := D.2.2.2.1.cell 2 rfl
      have c3 := D.2.2.2.1.cell 3 rfl
      have c4 := D.2.2.2.1.cell 4 rfl
      have c5 := D.2.2.2.1.cell 5 rfl
      have c6 := D.2.2.2.1.cell 6 rfl
      have c7 := D.2.2.2.1.cell 7 rfl
      have c8 := D.2.2.2.1.cell 8 rfl
      have c9 := D.2.2.2.1.cell 9 rfl
      have c10 := D.2.2.2.1.cell 10 rfl
      have c11 := D.2.2.2.1.cell 11 rfl
      have l5 := D.2.2.2.1.lt
      obtain ⟨-, -, hCE⟩ := Kd.R_reads' HE.out
      obtain ⟨-, -, hCC⟩ := Kd.R_reads' HC.out
      have HCE := Lib.hid hCE
      have HCC := Lib.hid hCC
      clear hCE hCC
      cases mk with
      | false =>
        go_wp2_with fail
        refine (spec_Enc_no acc hSE a0 a1 a2 a3 a4 a5 a6 a7 cf d ls (by omega) hCl AE cE AC cC W5 HCE.out hcE HCC.out hcC hmk).mono ?_
        rintro e W6 ⟨rfl, hb⟩
        replace D := D.below hb
        clear hb c0 c1 c2 c3 c4 c5 c6 c7 c8 c9 c10 c11 l5 HCE HCC HE HC W5
        have k2 := D.1
        have y0 := k2.cell 0 rfl
        have y1 := k2.cell 1 rfl
        have y2 := k2.cell 2 rfl
        have y3 := k2.cell 3 rfl
        have y4 := k2.cell 4 rfl
        have y5 := k2.cell 5 rfl
        have y6 := k2.cell 6 rfl
        have y7 := k2.cell 7 rfl
        have y8 := k2.cell 8 rfl
        have y9 := k2.cell 9 rfl
        have y10 := k2.cell 10 rfl
        have y11 := k2.cell 11 rfl
        have yf : ∀ o, _ := fun o => k2.free o
        have yl := k2.lt
        obtain ⟨rc0, rc1, rc2, rcf⟩ := D.2.1.cells
        have rl := D.2.1.lt
        cases q12 with
        | true =>
          go_wp2_with fail
          refine bodyPost_ret (v := .tuple #[.agg #[.int .i64 0, .int .i64 0, .int .i64 0, .int .i64 0, .int .i64 0, .int .i64 0, .int .i64 0, .bool false, .slice none 0 0, .slice none 0 0, .string ⟨#[]⟩, .bool false], .bool false]) ?_ rfl ⟨⟨.slice none 0 0, .slice none 0 0, rfl, Kd.R_nil _ _ _ _ _, Kd.R_nil _ _ _ _ _⟩, ?_⟩
          · simp only [results, Try.results29]
            go_simp
          · iterate 12 refine bl_set ?_ (Nat.le_refl _)
            exact D.2.2.1
        | false =>
          go_wp2_with fail
          refine bodyPost_ret (v := .tuple #[.agg #[.int .i64 0, .int .i64 0, .int .i64 0, .int .i64 0, .int .i64 0, .int .i64 0, .int .i64 0, .bool false, .slice none 0 0, .slice none 0 0, .string ⟨#[]⟩, .bool false], .bool false]) ?_ rfl ⟨⟨.slice none 0 0, .slice none 0 0, rfl, Kd.R_nil _ _ _ _ _, Kd.R_nil _ _ _ _ _⟩, ?_⟩
          · simp only [results, Try.results29]
            go_simp
          · iterate 12 refine bl_set ?_ (Nat.le_refl _)
            exact D.2.2.1
      | true =>
        obtain ⟨en, hen⟩ : ∃ en, encS a0 a1 a2 a3 a4 a5 a6 a7 acc cf d ls = en := ⟨_, rfl⟩
        have henc := spec_Enc_yes acc hSE a0 a1 a2 a3 a4 a5 a6 a7 cf d ls (by omega) hCl AE cE AC cC W5 HCE.out hcE HCC.out hcC hmk
        rw [hen] at henc hsm
        have hsm2 := hsm.out
        go_wp2_with fail
        refine henc.mono ?_
        clear henc hen
        rintro e W6 ⟨rfl, hb⟩
        replace HE := Lib.hid (Kd.R_below HE.out hb)
        replace HC := Lib.hid (Kd.R_below HC.out hb)
        replace D := D.below hb
        clear hb c0 c1 c2 c3 c4 c5 c6 c7 c8 c9 c10 c11 l5 HCE HCC W5
        have k2 := D.1
        have y0 := k2.cell 0 rfl
        have y1 := k2.cell 1 rfl
        have y2 := k2.cell 2 rfl
        have y3 := k2.cell 3 rfl
        have y4 := k2.cell 4 rfl
        have y5 := k2.cell 5 rfl
        have y6 := k2.cell 6 rfl
        have y7 := k2.cell 7 rfl
        have y8 := k2.cell 8 rfl
        have y9 := k2.cell 9 rfl
        have y10 := k2.cell 10 rfl
        have y11 := k2.cell 11 rfl
        have yf : ∀ o, _ := fun o => k2.free o
        have yl := k2.lt
        obtain ⟨rc0, rc1, rc2, rcf⟩ := D.2.1.cells
        have rl := D.2.1.lt
        cases q12 with
        | true =>
          go_wp2_with fail
          refine bodyPost_ret (v := .tuple #[.agg #[.int .i64 0, .int .i64 0, .int .i64 0, .int .i64 0, .int .i64 0, .int .i64 0, .int .i64 0, .bool false, .slice none 0 0, .slice none 0 0, .string ⟨#[]⟩, .bool false], .bool false]) ?_ rfl ⟨⟨.slice none 0 0, .slice none 0 0, rfl, Kd.R_nil _ _ _ _ _, Kd.R_nil _ _ _ _ _⟩, ?_⟩
          · simp only [results, Try.results29]
            go_simp
          · iterate 12 refine bl_set ?_ (Nat.le_refl _)
            exact D.2.2.1
        | false =>
          cases sm with
          | false =>
            go_wp2_with fail
            refine bodyPost_ret (v := .tuple #[.agg #[.int .i64 0, .int .i64 0, .int .i64 0, .int .i64 0, .int .i64 0, .int .i64 0, .int .i64 0, .bool false, .slice none 0 0, .slice none 0 0, .string ⟨#[]⟩, .bool false], .bool false]) ?_ rfl ⟨⟨.slice none 0 0, .slice none 0 0, rfl, Kd.R_nil _ _ _ _ _, Kd.R_nil _ _ _ _ _⟩, ?_⟩
            · simp only [results, Try.results29]
              go_simp
            · iterate 12 refine bl_set ?_ (Nat.le_refl _)
              exact D.2.2.1
          | true =>
            have c0 := D.2.2.2.1.cell 0 rfl
            have c1 := D.2.2.2.1.cell 1 rfl
            have c2 := D.2.2.2.1.cell 2 rfl
            have c3 := D.2.2.2.1.cell 3 rfl
            have c4 := D.2.2.2.1.cell 4 rfl
            have c5 := D.2.2.2.1.cell 5 rfl
            have c6 := D.2.2.2.1.cell 6 rfl
            have c7 := D.2.2.2.1.cell 7 rfl
            have c8 := D.2.2.2.1.cell 8 rfl
            have c9 := D.2.2.2.1.cell 9 rfl
            have c10 := D.2.2.2.1.cell 10 rfl
            have c11 := D.2.2.2.1.cell 11 rfl
            have l5 := D.2.2.2.1.lt
            have nb2 : w.heap.size < b := by omega
            go_wp2_with fail
            have hE2 := HE.out
            have hC2 := HC.out
            refine bodyPost_ret (v := .tuple #[.agg #[.int .i64 a0, .int .i64 a1, .int .i64 a2, .int .i64 a3, .int .i64 a4, .int .i64 a5, .int .i64 a6, .bool a7, .slice AE acc.length cE, .slice AC cf.length cC, .string d, .bool ls], .bool true]) ?_ rfl ⟨⟨.slice AE acc.length cE, .slice AC cf.length cC, rfl, ?_, ?_⟩, ?_⟩
            · simp only [results, Try.results29]
              go_simp
            · refine Kd.R_mono (ok := fun k => b < k) ?_ (fun _ _ => trivial)
              iterate 12 refine own_set ?_ (Nat.le_of_lt nb2)
              exact hE2
            · refine Kd.R_mono (ok := fun k => b < k) ?_ (fun _ _ => trivial)
              iterate 12 refine own_set ?_ (Nat.le_of_lt nb2)
              exact hC2
            · iterate 12 refine bl_set ?_ (Nat.le_refl _)
              exact D.2.2.1
end Go.Proofs.Ytofikijbmgejkaa
end

/-! ### YtofikijbmgejkaaDecBoth -/
section
namespace Go.Proofs.Ytofikijbmgejkaa
open Go.RowKit Go.Proofs.YtofikijbmgejkaaW.PrintWords PFnExactDecode
set_option linter.unusedSimpArgs false
set_option linter.unusedVariables false

/-! Both Decodes answer alike. (own) -/
theorem short_of_mem {es : List S105} (h : ∀ e ∈ es, e.f2.size ≤ 1048576) : Short es := by
  intro i
  by_cases hi : i < es.length
  · have : rd_T105 es (i : Int) = es[i] := by simp [rd_T105, hi]
    rw [this]
    exact h _ (List.getElem_mem hi)
  · have : rd_T105 es (i : Int) = z105 := by simp [rd_T105, hi]
    rw [this]
    exact Nat.zero_le _
theorem rentI_size (t : ByteArray) : (rentI t).2.2.f2.size ≤ t.size := by
  unfold rentI
  simp only
  split
  · simp only [ByteArray.size_extract]; omega
  · exact Nat.zero_le _
theorem iRun_all (s : ByteArray) : ∀ (n : Nat) (p : Int) (q : Bool) (acc : List S105), 0 ≤ p ∧ p ≤ s.size → (∀ e ∈ acc, e.f2.size ≤ 1048576) → (iRun s n p q acc).2.2.length = acc.length + n ∧ ∀ e ∈ (iRun s n p q acc).2.2, e.f2.size ≤ 1048576
  | 0, p, q, acc, hp, h => ⟨rfl, h⟩
  | n + 1, p, q, acc, hp, h => by
    rcases hx : rdText s p q with ⟨t, p1, q1⟩
    have hr := text_r hx hp
    simp only [iRun, hx]
    obtain ⟨h1, h2⟩ := iRun_all s n p1 (q1 || !(rentI t).1 || (rentI t).2.1 != 1) (acc ++ [(rentI t).2.2]) ⟨hr.1, hr.2.1⟩ (fun e he => by
      rcases List.mem_append.1 he with he | he
      · exact h e he
      · rw [List.mem_singleton] at he
        rw [he]
        have := rentI_size t
        omega)
    exact ⟨by rw [h1]; simp; omega, h2⟩
theorem sRun_all (s : ByteArray) (hs : s.size ≤ 1048576) (n : Int) : ∀ (k i : Nat) (p : Int) (q : Bool) (acc : List S105), 0 ≤ p ∧ p ≤ s.size → acc.length = i → i ≤ 5 → (∀ e ∈ acc, e.f2.size ≤ 1048576) → (sRun s n k i p q acc).2.2.length ≤ 5 ∧ (∀ e ∈ (sRun s n k i p q acc).2.2, e.f2.size ≤ 1048576) ∧ 0 ≤ (sRun s n k i p q acc).1 ∧ (sRun s n k i p q acc).1 ≤ s.size
  | 0, i, p, q, acc, hp, ha, hi, h => by simp only [sRun]; exact ⟨by show acc.length ≤ 5; omega, h, hp.1, hp.2⟩
  | k + 1, i, p, q, acc, hp, ha, hi, h => by
    simp only [sRun]
    by_cases hc : (i : Int) < n ∧ q = false ∧ i ≤ 4
    · rw [if_pos hc]
      rcases hx : rdShort s p q with ⟨t, p1, q1⟩
      have hr := short_r hx hp
      simp only
      exact sRun_all s hs n k (i + 1) p1 q1 (acc ++ [(rentS t).2.2]) ⟨hr.1, hr.2.1⟩ (by simp [ha]) (by omega) (fun e he => by
        rcases List.mem_append.1 he with he | he
        · exact h e he
        · rw [List.mem_singleton] at he
          rw [he]
          have := rentS_size t
          omega)
    · rw [if_neg hc]
      exact ⟨by show acc.length ≤ 5; omega, h, hp.1, hp.2⟩
theorem readConf_length (ct : ByteArray) : (readConf ct).1.length ≤ ct.size := by
  unfold readConf
  split
  · exact Nat.le_of_eq (bytesFrom_length _ _ _)
  · exact Nat.zero_le _

/-- A message handed back: it owns its memory. -/
def MB (w w' : World) (e : Ending) (a0 a1 a2 a3 a4 a5 a6 : Int) (a7 : Bool) (es : List S105) (cf : List Int) (d : ByteArray) (ls ok : Bool) : Prop :=
  ∃ vE vC, e = .returned (.tuple #[.agg #[.int .i64 a0, .int .i64 a1, .int .i64 a2, .int .i64 a3, .int .i64 a4, .int .i64 a5, .int .i64 a6, .bool a7, vE, vC, .string d, .bool ls], .bool ok]) ∧
    Kd.R k105 105 w' w.heap.size (fun _ => True) vE es ∧ Kd.R (Kd.int .i64) 3 w' w.heap.size (fun _ => True) vC cf ∧ Below w.heap.size w w'
theorem DecBack.yes {w w' : World} {e : Ending} {a0 a1 a2 a3 a4 a5 a6 : Int} {a7 : Bool} {es : List S105} {cf : List Int} {d : ByteArray} {ls ok : Bool} (h : DecBack w w' e ok a0 a1 a2 a3 a4 a5 a6 a7 es cf d ls) (hok : ok = true) : MB w w' e a0 a1 a2 a3 a4 a5 a6 a7 es cf d ls true := by
  subst hok
  obtain ⟨⟨vE, vC, h1, h2, h3⟩, hb⟩ := h
  exact ⟨vE, vC, h1, h2, h3, hb⟩
theorem DecBack.no {w w' : World} {e : Ending} {a0 a1 a2 a3 a4 a5 a6 : Int} {a7 : Bool} {es : List S105} {cf : List Int} {d : ByteArray} {ls ok : Bool} (h : DecBack w w' e ok a0 a1 a2 a3 a4 a5 a6 a7 es cf d ls) (hok : ok = false) : MB w w' e 0 0 0 0 0 0 0 false [] [] ⟨#[]⟩ false false := by
  subst hok
  obtain ⟨⟨vE, vC, h1, h2, h3⟩, hb⟩ := h
  exact ⟨vE, vC, h1, h2, h3, hb⟩

theorem conf_short {a0 a1 a2 a3 a4 a5 a6 : Int} {es : List S105} {cf : List Int} {d : ByteArray} {ls : Bool} (h : msgB a0 a1 a2 a3 a4 a5 a6 es cf d ls = true) : cf.length ≤ 4 := by
  obtain ⟨-, -, -, -, -, b9, -⟩ := msgB_facts h
  rcases b9 with b9 | b9
  · exact (confOk_short b9).2
  · omega
theorem conf_read {cf : List Int} (h : confOk cf = true ∨ cf.length = 0) : (readConf (confT cf)).1 = cf := by
  unfold readConf
  rw [confT_back h]
  rcases h with h | h
  · rw [if_pos h]
  · have := List.eq_nil_of_length_eq_zero h
    subst this
    rfl
theorem bt_ext (s : ByteArray) (a b j : Nat) (hj : a + j < b) (hb : b ≤ s.size) : bt (s.extract a b) (j : Int) = bt s ((a + j : Nat) : Int) := by
  rw [bt_byN, bt_byN]
  have h1 := byN_nums (s.extract a b) j (by rw [ByteArray.size_extract]; omega)
  have h2 := byN_nums s (a + j) (by omega)
  rw [nums8_extract, List.getElem?_take, if_pos (by omega), List.getElem?_drop, h2] at h1
  simp only [Option.some.injEq] at h1
  rw [h1]
theorem byte_val {s : ByteArray} {p b p' : Int} (h : rdByte s p false = (b, p', false)) : bt s p = b := by
  unfold rdByte at h
  split at h
  · simp at h
  · simp only [Prod.mk.injEq] at h
    exact h.1
theorem flag_str {b : Bool} : ((byteS (flagN b)).toList == [1]) = b := by cases b <;> decide +kernel

theorem decode_both (s : ByteArray) (hs : s.size ≤ 1048576) : ∃ (a0 a1 a2 a3 a4 a5 a6 : Int) (a7 : Bool) (es : List S105) (cf : List Int) (d : ByteArray) (ls ok : Bool), es.length ≤ 4 ∧ cf.length ≤ 4 ∧
    (∀ w, Calls Try.prog 29 #[.string s] w fun e w' => MB w w' e a0 a1 a2 a3 a4 a5 a6 a7 es cf d ls ok) ∧
    (∀ w, Calls Try.prog 30 #[.string s] w fun e w' => MB w w' e a0 a1 a2 a3 a4 a5 a6 a7 es cf d ls ok) := by
  by_cases hA : ∃ (a0 a1 a2 a3 a4 a5 a6 : Int) (a7 : Bool) (es : List S105) (cf : List Int) (d : ByteArray) (ls : Bool), msgB a0 a1 a2 a3 a4 a5 a6 es cf d ls = true ∧ encS a0 a1 a2 a3 a4 a5 a6 a7 es cf d ls = s
  · obtain ⟨a0, a1, a2, a3, a4, a5, a6, a7, es, cf, d, ls, hm, henc⟩ := hA
    have hn : nums8 s = headL a0 a1 a2 a3 a4 a5 a6 a7 ls es.length ++ (entsL es ++ (nums8 (shortS (confT cf)) ++ nums8 (shortS d))) := by rw [← henc]; exact encS_nums a0 a1 a2 a3 a4 a5 a6 a7 es cf d ls
    obtain ⟨p3, p4, p5, p6, p9, p10, p11, h0, h1, h2, h3, h4, h5, h6, ⟨h7, k7⟩, ⟨h8, k8⟩, h9, h10, h11, h12, g6, g8, g9, g9', hl4, ht⟩ := dec_fwd (a7 := a7) hm s hn
    obtain ⟨-, -, -, -, -, b9, b10⟩ := msgB_facts hm
    have hcb := confT_back b9
    have hcs := conf_short hm
    have hSE : Short es := short_of_mem (fun e he => by
      have hx := msg_ents hm e he
      unfold entryOkI at hx
      simp only [Bool.and_eq_true] at hx
      have := entryOk_parts hx.1
      omega)
    refine ⟨a0, a1, a2, a3, a4, a5, a6, a7, es, cf, d, ls, true, hl4, hcs, fun w => ?_, fun w => ?_⟩
    · have t0 : rdTake s 0 false 3 = (s.extract 0 3, 3, false) := by
        have hz : 3 ≤ s.size := by
          have := byte_r h2 ⟨by omega, by
            have := byte_r h1 ⟨by omega, by
              have := byte_r h0 ⟨by omega, by omega⟩
              omega⟩
            omega⟩
          omega
        unfold rdTake
        rw [if_neg (by simp; omega)]
        rfl
      have hz : 3 ≤ s.size := by
        have h := take_size t0 (by omega) ⟨by omega, by omega⟩
        have h2 := (take_r t0 (by omega) ⟨by omega, by omega⟩).2.1
        omega
      have e0 : bt (s.extract 0 3) 0 = a0 := by
        have := bt_ext s 0 3 0 (by omega) hz
        rw [show ((0 : Nat) : Int) = (0 : Int) from rfl] at this
        rw [this]
        exact byte_val h0
      have e1 : bt (s.extract 0 3) 1 = a1 := by
        have := bt_ext s 0 3 1 (by omega) hz
        rw [show ((1 : Nat) : Int) = (1 : Int) from rfl] at this
        rw [this]
        exact byte_val h1
      have e2 : bt (s.extract 0 3) 2 = a2 := by
        have := bt_ext s 0 3 2 (by omega) hz
        rw [show ((2 : Nat) : Int) = (2 : Int) from rfl] at this
        rw [this]
        exact byte_val h2
      obtain ⟨t7, -⟩ := take_of_byte g6 k7
      obtain ⟨t8, -⟩ := take_of_byte (by omega) k8
      have hrun : sRun s es.length 6 0 p9 false [] = (p10, false, es) := by
        obtain ⟨p', r1, r2, -⟩ := sRun_same (acc := []) (k := 6) (msg_ents hm) ht rfl (by omega) (by omega)
        rw [h10] at r2
        simp only [List.nil_append, Prod.mk.injEq] at r2
        rw [r1, r2.1]
        rfl
      rcases hrc : readConf (confT cf) with ⟨cf', fine⟩
      have hcf' : cf' = cf := by have := conf_read b9; rw [hrc] at this; exact this
      subst hcf'
      refine (spec_Decode s hs (s.extract 0 3) a0 a1 a2 a3 a4 a5 a6 es.length 3 p3 p4 p5 p6 (p6 + 1) (p6 + 1 + 1) p9 p10 p11 s.size a7 ls false false false false false false false false false false es (byteS (flagN a7)) (byteS (flagN ls)) (confT cf') d cf' fine w
        (Lib.hid t0) (Lib.hid e0) (Lib.hid e1) (Lib.hid e2) (Lib.hid h3) (Lib.hid h4) (Lib.hid h5) (Lib.hid h6) (Lib.hid t7) flag_str (Lib.hid t8) flag_str (Lib.hid h9) (Lib.hid hrun) (Lib.hid (short_of_text h11)) (Lib.hid hrc) (Lib.hid (short_of_text h12)) true true (Lib.hid hm) (Lib.hid (by rw [henc]; simp)) hSE (by omega) (by omega)).mono ?_
      rintro e w' h
      exact h.yes rfl
    · have hdn : (!false && ((s.size : Int) == s.size)) = true := by simp
      refine (impl_Decode s hs a0 a1 a2 a3 a4 a5 a6 es.length 1 2 3 p3 p4 p5 p6 (p6 + 1) (p6 + 1 + 1) p9 p10 p11 s.size a7 ls false false false false false false false false false false false false false es (confT cf) d w
        (Lib.hid h0) (Lib.hid h1) (Lib.hid h2) (Lib.hid h3) (Lib.hid h4) (Lib.hid h5) (Lib.hid h6) (Lib.hid h7) (Lib.hid h8) (Lib.hid (by unfold rdMany; rw [h9, if_neg (by omega)])) (Lib.hid (by rw [Int.toNat_natCast]; exact h10)) (Lib.hid h11) (Lib.hid h12) true true (Lib.hid hdn) (Lib.hid (by rw [hcb]; exact hm)) hSE hl4).mono ?_
      rintro e w' h
      rw [hcb] at h
      exact h.yes rfl
  · refine ⟨0, 0, 0, 0, 0, 0, 0, false, [], [], ⟨#[]⟩, false, false, by simp, by simp, fun w => ?_, fun w => ?_⟩
    · rcases h0 : rdTake s 0 false 3 with ⟨hd, p2, q2⟩
      cases q2 with
      | true =>
        refine (spec_Decode_no s hs hd p2 w (Lib.hid h0)).mono ?_
        rintro e w' h
        exact h.no rfl
      | false =>
        rcases h3 : rdNum s p2 false with ⟨a3, p3, q3⟩
        rcases h4 : rdNum s p3 q3 with ⟨a4, p4, q4⟩
        rcases h5 : rdNum s p4 q4 with ⟨a5, p5, q5⟩
        rcases h6 : rdNum s p5 q5 with ⟨a6, p6, q6⟩
        rcases h7 : rdTake s p6 q6 1 with ⟨t7, p7, q7⟩
        rcases h8 : rdTake s p7 q7 1 with ⟨t8, p8, q8⟩
        rcases h9 : rdNum s p8 q8 with ⟨n, p9, q9⟩
        rcases h10 : sRun s n 6 0 p9 q9 [] with ⟨p10, q10, es⟩
        rcases h11 : rdShort s p10 q10 with ⟨ct, p11, q11⟩
        rcases hcf : readConf ct with ⟨cf, fine⟩
        rcases h12 : rdShort s p11 q11 with ⟨d, p12, q12⟩
        have r2 := take_r h0 (by omega) ⟨by omega, by omega⟩
        have r3 := num_r h3 ⟨r2.1, r2.2.1⟩
        have r4 := num_r h4 ⟨r3.1, r3.2.1⟩
        have r5 := num_r h5 ⟨r4.1, r4.2.1⟩
        have r6 := num_r h6 ⟨r5.1, r5.2.1⟩
        have r7 := take_r h7 (by omega) ⟨r6.1, r6.2.1⟩
        have r8 := take_r h8 (by omega) ⟨r7.1, r7.2.1⟩
        have r9 := num_r h9 ⟨r8.1, r8.2.1⟩
        have ha := sRun_all s hs n 6 0 p9 q9 [] ⟨r9.1, r9.2.1⟩ rfl (by omega) (by simp)
        rw [h10] at ha
        have r11 := short_r h11 ⟨ha.2.2.1, ha.2.2.2⟩
        have hcl := readConf_length ct
        rw [hcf] at hcl
        refine (spec_Decode s hs hd (bt hd 0) (bt hd 1) (bt hd 2) a3 a4 a5 a6 n p2 p3 p4 p5 p6 p7 p8 p9 p10 p11 p12 (t7.toList == [1]) (t8.toList == [1]) q3 q4 q5 q6 q7 q8 q9 q10 q11 q12 es t7 t8 ct d cf fine w
          (Lib.hid h0) (Lib.hid rfl) (Lib.hid rfl) (Lib.hid rfl) (Lib.hid h3) (Lib.hid h4) (Lib.hid h5) (Lib.hid h6) (Lib.hid h7) rfl (Lib.hid h8) rfl (Lib.hid h9) (Lib.hid h10) (Lib.hid h11) (Lib.hid hcf) (Lib.hid h12) _ _ (Lib.hid rfl) (Lib.hid rfl) (short_of_mem ha.2.1) ha.1 (by simp only at hcl; omega)).mono ?_
        rintro e w' h
        refine h.no ?_
        rw [Bool.eq_false_iff]
        intro hc
        simp only [Bool.and_eq_true, beq_iff_eq] at hc
        exact hA ⟨_, _, _, _, _, _, _, _, _, _, _, _, hc.2.1, ba_ext hc.2.2⟩
    · rcases h0 : rdByte s 0 false with ⟨a0, p0, q0⟩
      rcases h1 : rdByte s p0 q0 with ⟨a1, p1, q1⟩
      rcases h2 : rdByte s p1 q1 with ⟨a2, p2, q2⟩
      rcases h3 : rdNum s p2 q2 with ⟨a3, p3, q3⟩
      rcases h4 : rdNum s p3 q3 with ⟨a4, p4, q4⟩
      rcases h5 : rdNum s p4 q4 with ⟨a5, p5, q5⟩
      rcases h6 : rdNum s p5 q5 with ⟨a6, p6, q6⟩
      rcases h7 : rdFlag s p6 q6 with ⟨a7, p7, q7⟩
      rcases h8 : rdFlag s p7 q7 with ⟨ls, p8, q8⟩
      rcases h9 : rdMany s p8 q8 4 with ⟨n, p9, q9⟩
      rcases h10 : iRun s n.toNat p9 q9 [] with ⟨p10, q10, es⟩
      rcases h11 : rdText s p10 q10 with ⟨ct, p11, q11⟩
      rcases h12 : rdText s p11 q11 with ⟨d, p12, q12⟩
      have g : 0 ≤ (0 : Int) ∧ (0 : Int) ≤ s.size := by omega
      have r0 := byte_r h0 g
      have r1 := byte_r h1 ⟨r0.1, r0.2.1⟩
      have r2 := byte_r h2 ⟨r1.1, r1.2.1⟩
      have r3 := num_r h3 ⟨r2.1, r2.2.1⟩
      have r4 := num_r h4 ⟨r3.1, r3.2.1⟩
      have r5 := num_r h5 ⟨r4.1, r4.2.1⟩
      have r6 := num_r h6 ⟨r5.1, r5.2.1⟩
      have r7 := flag_r h7 ⟨r6.1, r6.2.1⟩
      have r8 := flag_r h8 r7
      have r9 := many_r h9 (by omega) r8
      have ha := iRun_all s n.toNat p9 q9 [] ⟨r9.1, r9.2.1⟩ (by simp)
      rw [h10] at ha
      simp only [List.length_nil, Nat.zero_add] at ha
      refine (impl_Decode s hs a0 a1 a2 a3 a4 a5 a6 n p0 p1 p2 p3 p4 p5 p6 p7 p8 p9 p10 p11 p12 a7 ls q0 q1 q2 q3 q4 q5 q6 q7 q8 q9 q10 q11 q12 es ct d w
        (Lib.hid h0) (Lib.hid h1) (Lib.hid h2) (Lib.hid h3) (Lib.hid h4) (Lib.hid h5) (Lib.hid h6) (Lib.hid h7) (Lib.hid h8) (Lib.hid h9) (Lib.hid h10) (Lib.hid h11) (Lib.hid h12) _ _ (Lib.hid rfl) (Lib.hid rfl) (short_of_mem ha.2) (by have := ha.1; omega)).mono ?_
      rintro e w' h
      refine h.no ?_
      rw [Bool.eq_false_iff]
      intro hc
      simp only [Bool.and_eq_true, Bool.not_eq_true', beq_iff_eq] at hc
      obtain ⟨⟨hq, hp⟩, hm⟩ := hc
      have hn := dec_inv h0 h1 h2 h3 h4 h5 h6 h7 h8 h9 h10 h11 h12 hq hp
      refine hA ⟨a0, a1, a2, a3, a4, a5, a6, a7, es, bytesFrom ct 0 ct.size, d, ls, hm, nums8_inj ?_⟩
      rw [encS_nums, hn]
      have hct : confT (bytesFrom ct 0 ct.size) = ct := by
        apply nums8_inj
        have hb := bytesFrom_nums ct ct.size 0 (by omega)
        rw [List.drop_zero] at hb
        unfold confT
        have hr : ∀ x ∈ (nums8 ct).map (fun x : Nat => (x : Int)), 0 ≤ x ∧ x < 256 := by
          intro x hx
          obtain ⟨y, hy, rfl⟩ := List.mem_map.1 hx
          unfold nums8 at hy
          obtain ⟨z, -, rfl⟩ := List.mem_map.1 hy
          have := z.toNat_lt
          omega
        have e : PFnExactDecode.confBs (bytesFrom ct 0 ct.size) = bytesFrom ct 0 ct.size := by
          rw [hb]
          unfold PFnExactDecode.confBs
          have : ((nums8 ct).map (fun x : Nat => (x : Int))).map (fun x => x % 256) = ((nums8 ct).map (fun x : Nat => (x : Int))).map id := List.map_congr_left (fun x hx => by have := hr x hx; simp; omega)
          simpa using this
        rw [e, hb, nums8_str _ hr, List.map_map]
        have : (nums8 ct).map (Int.toNat ∘ fun x : Nat => (x : Int)) = (nums8 ct).map id := List.map_congr_left (fun x _ => by simp)
        simpa using this
      rw [hct]
end Go.Proofs.Ytofikijbmgejkaa
end

/-! ### YtofikijbmgejkaaMarkHeldFnExactDecode -/
section
namespace Go.Proofs.Ytofikijbmgejkaa.PFnExactDecode
open Go.RowKit Go.Proofs.YtofikijbmgejkaaW.PrintWords
set_option linter.unusedSimpArgs false
set_option linter.unusedVariables false

/-! Numbers marked, held, compared with themselves. (own) -/
def marksI (a : Int) : Nat → List Int
  | 0 => []
  | n + 1 => a :: marksI (a + 1) n
theorem marksI_length : ∀ (n : Nat) (a : Int), (marksI a n).length = n
  | 0, _ => rfl
  | n + 1, a => by simp [marksI, marksI_length n]
theorem marksI_snoc : ∀ (n : Nat) (a : Int), marksI a (n + 1) = marksI a n ++ [a + n]
  | 0, a => by simp [marksI]
  | n + 1, a => by
    have := marksI_snoc n (a + 1)
    rw [marksI, this, marksI, List.cons_append, show a + 1 + (n : Int) = a + ((n + 1 : Nat) : Int) from by omega]
theorem rd_marksI : ∀ (n i : Nat) (a : Int), i < n → rd (marksI a n) i = a + i
  | 0, _, _, h => by omega
  | n + 1, 0, a, _ => by simp [marksI, rd]
  | n + 1, i + 1, a, h => by
    have := rd_marksI n i (a + 1) (by omega)
    have e : rd (marksI a (n + 1)) ((i + 1 : Nat) : Int) = rd (marksI (a + 1) n) (i : Int) := by simp [marksI, rd]
    rw [e, this]; omega
theorem markI_l0 (xs : List Int) (m : Int) (hm0 : 0 ≤ m) (hm1 : m ≤ 1099511627776) (hl : xs.length ≤ 1099511627776) : ∀ (n k i : Nat), n + i = xs.length → n < k →
    laws_markIntS.l0 k (marksI m i ++ xs.drop i) (m + i) i = some (m + xs.length, marksI m xs.length)
  | _, 0, _, _, hk => by omega
  | 0, k + 1, i, h, hk => by
    unfold laws_markIntS.l0
    rw [if_neg (by simp [marksI_length]; omega), show i = xs.length from by omega, List.drop_length, List.append_nil]
  | n + 1, k + 1, i, h, hk => by
    have e1 : wrap64 ((i : Int) + 1) = ((i + 1 : Nat) : Int) := by unfold wrap64; omega
    have e2 : wrap64 (m + (i : Int) + 1) = m + ((i + 1 : Nat) : Int) := by unfold wrap64; omega
    unfold laws_markIntS.l0
    rw [if_pos (by simp [marksI_length]; omega), if_pos (by omega), e1, e2]
    clear e1 e2
    have hi : i < xs.length := by omega
    have hs : (marksI m i ++ xs.drop i).set ((i : Int)).toNat (m + i) = marksI m (i + 1) ++ xs.drop (i + 1) := by
      rw [Int.toNat_natCast, List.set_append_right _ _ (by rw [marksI_length]; omega), marksI_length, Nat.sub_self, List.drop_eq_getElem_cons hi, List.set_cons_zero, marksI_snoc, List.append_assoc]
      rfl
    rw [hs]
    exact markI_l0 xs m hm0 hm1 hl n k (i + 1) (by omega) (by omega)
theorem markI_f (xs : List Int) (m : Int) (k : Nat) (hk : xs.length < k) (hm0 : 0 ≤ m) (hm1 : m ≤ 1099511627776) (hl : xs.length ≤ 1099511627776) : laws_markIntS.f k xs m = some (m + xs.length, marksI m xs.length) := by
  have := markI_l0 xs m hm0 hm1 hl xs.length k 0 (by omega) hk
  simpa [laws_markIntS.f, marksI] using this
theorem heldI_l0 (N : Nat) (m : Int) (hm0 : 0 ≤ m) (hm1 : m ≤ 1099511627776) (hl : N ≤ 1099511627776) : ∀ (n k i : Nat), n + i = N → n < k →
    laws_heldIntS.l0 k (marksI m N) (m + i) i = some (m + N)
  | _, 0, _, _, hk => by omega
  | 0, k + 1, i, h, hk => by
    unfold laws_heldIntS.l0
    rw [if_neg (by rw [marksI_length]; omega), show i = N from by omega]
  | n + 1, k + 1, i, h, hk => by
    have e1 : wrap64 ((i : Int) + 1) = ((i + 1 : Nat) : Int) := by unfold wrap64; omega
    have e2 : wrap64 (m + (i : Int) + 1) = m + ((i + 1 : Nat) : Int) := by unfold wrap64; omega
    unfold laws_heldIntS.l0
    rw [if_pos (by rw [marksI_length]; omega), if_pos (by omega), if_pos (rd_marksI N i m (by omega)), e1, e2]
    clear e1 e2
    exact heldI_l0 N m hm0 hm1 hl n k (i + 1) (by omega) (by omega)
theorem heldI_f (N : Nat) (m : Int) (k : Nat) (hk : N < k) (hm0 : 0 ≤ m) (hm1 : m ≤ 1099511627776) (hl : N ≤ 1099511627776) : laws_heldIntS.f k (marksI m N) m = some (m + N) := by
  have := heldI_l0 N m hm0 hm1 hl N k 0 (by omega) hk
  simpa [laws_heldIntS.f] using this
end Go.Proofs.Ytofikijbmgejkaa.PFnExactDecode
end

/-! ### YtofikijbmgejkaaDecMark -/
section
namespace Go.Proofs.Ytofikijbmgejkaa
open Go.RowKit Go.Proofs.YtofikijbmgejkaaW.PrintWords PFnExactDecode
set_option linter.unusedSimpArgs false
set_option linter.unusedVariables false

/-! The marks on an answer, and whether they are held. (own) -/
def marksE (n : Nat) : List S105 := ([⟨1, 2, ⟨#[109, 51]⟩⟩, ⟨4, 5, ⟨#[109, 54]⟩⟩, ⟨7, 8, ⟨#[109, 57]⟩⟩, ⟨10, 11, ⟨#[109, 49, 50]⟩⟩] : List S105).take n
theorem marksE_length {n : Nat} (h : n ≤ 4) : (marksE n).length = n := by unfold marksE; simp; omega
theorem set3 (xs : List S105) (i : Nat) (hi : i < xs.length) (a b : Int) :
    (((xs.set i (⟨a, (rd_T105 xs (i : Int)).f1, (rd_T105 xs (i : Int)).f2⟩ : S105)).set i ⟨(rd_T105 (xs.set i (⟨a, (rd_T105 xs (i : Int)).f1, (rd_T105 xs (i : Int)).f2⟩ : S105)) (i : Int)).f0, b, (rd_T105 (xs.set i (⟨a, (rd_T105 xs (i : Int)).f1, (rd_T105 xs (i : Int)).f2⟩ : S105)) (i : Int)).f2⟩)) = xs.set i ⟨a, b, (rd_T105 xs (i : Int)).f2⟩ := by
  have h : ∀ y : S105, rd_T105 (xs.set i y) (i : Int) = y := fun y => by simp [rd_T105, hi]
  rw [h, List.set_set]
theorem rd_set (xs : List S105) (i : Nat) (hi : i < xs.length) (y : S105) : rd_T105 (xs.set i y) (i : Int) = y := by simp [rd_T105, hi]
theorem markE_step (xs : List S105) (k i m : Nat) (hi : i < xs.length) (hl : xs.length ≤ 4) (hm : m ≤ 100) (t : ByteArray) (ht : PFnExactDecode.laws_markText.f k (((m + 2 : Nat)) : Int) = some t) :
    PFnExactDecode.laws_markEntryS.l0 (k + 1) xs (m : Int) (i : Int) = PFnExactDecode.laws_markEntryS.l0 k (xs.set i ⟨(m : Int), ((m + 1 : Nat) : Int), t⟩) ((m + 3 : Nat) : Int) ((i + 1 : Nat) : Int) := by
  have c1 : (i : Int) < (xs.length : Int) := by omega
  have c2 : (0 : Int) ≤ (i : Int) := by omega
  have e1 : wrap64 ((m : Int) + 1) = ((m + 1 : Nat) : Int) := by unfold wrap64; omega
  have e2 : wrap64 (((m + 1 : Nat) : Int) + 1) = ((m + 2 : Nat) : Int) := by clear e1; unfold wrap64; omega
  have e3 : wrap64 (((m + 2 : Nat) : Int) + 1) = ((m + 3 : Nat) : Int) := by clear e1 e2; unfold wrap64; omega
  have e4 : wrap64 ((i : Int) + 1) = ((i + 1 : Nat) : Int) := by clear e1 e2 e3; unfold wrap64; omega
  conv => lhs; unfold PFnExactDecode.laws_markEntryS.l0
  rw [if_pos c1, if_pos c2]
  simp only [Option.bind_some, Int.toNat_natCast, e1, e2, e3, e4, ht]
  rw [set3 xs i hi, rd_set xs i hi, List.set_set]
theorem markE_end (xs : List S105) (k i m : Nat) (hi : ¬ i < xs.length) : PFnExactDecode.laws_markEntryS.l0 (k + 1) xs (m : Int) (i : Int) = some ((m : Int), xs) := by
  rw [PFnExactDecode.laws_markEntryS.l0]
  rw [if_neg (by omega)]
theorem txt3 : PFnExactDecode.laws_markText.f 19 ((3 : Nat) : Int) = some ⟨#[109, 51]⟩ := by decide +kernel
theorem txt6 : PFnExactDecode.laws_markText.f 18 ((6 : Nat) : Int) = some ⟨#[109, 54]⟩ := by decide +kernel
theorem txt9 : PFnExactDecode.laws_markText.f 17 ((9 : Nat) : Int) = some ⟨#[109, 57]⟩ := by decide +kernel
theorem txt12 : PFnExactDecode.laws_markText.f 16 ((12 : Nat) : Int) = some ⟨#[109, 49, 50]⟩ := by decide +kernel
theorem markE_f (es : List S105) (h : es.length ≤ 4) : PFnExactDecode.laws_markEntryS.f 20 es 1 = some (1 + 3 * (es.length : Int), marksE es.length) := by
  unfold PFnExactDecode.laws_markEntryS.f
  show PFnExactDecode.laws_markEntryS.l0 (19 + 1) es ((1 : Nat) : Int) ((0 : Nat) : Int) = _
  rcases es with _ | ⟨x1, _ | ⟨x2, _ | ⟨x3, _ | ⟨x4, _ | ⟨x5, r⟩⟩⟩⟩⟩
  · rw [markE_end _ 19 0 1 (by simp)]
    rfl
  · rw [markE_step _ 19 0 1 (by simp) h (by omega) _ txt3, markE_end _ 18 1 4 (by simp)]
    rfl
  · rw [markE_step _ 19 0 1 (by simp) h (by omega) _ txt3, markE_step _ 18 1 4 (by simp) (by simp) (by omega) _ txt6, markE_end _ 17 2 7 (by simp)]
    rfl
  · rw [markE_step _ 19 0 1 (by simp) h (by omega) _ txt3, markE_step _ 18 1 4 (by simp) (by simp) (by omega) _ txt6, markE_step _ 17 2 7 (by simp) (by simp) (by omega) _ txt9, markE_end _ 16 3 10 (by simp)]
    rfl
  · rw [markE_step _ 19 0 1 (by simp) h (by omega) _ txt3, markE_step _ 18 1 4 (by simp) (by simp) (by omega) _ txt6, markE_step _ 17 2 7 (by simp) (by simp) (by omega) _ txt9, markE_step _ 16 3 10 (by simp) (by simp) (by omega) _ txt12, markE_end _ 15 4 13 (by simp)]
    rfl
  · simp at h
theorem heldE_f (n : Nat) (h : n ≤ 4) : PFnExactDecode.laws_heldEntryS.f 20 (marksE n) 1 = some (1 + 3 * (n : Int)) := by
  have : n = 0 ∨ n = 1 ∨ n = 2 ∨ n = 3 ∨ n = 4 := by omega
  rcases this with rfl | rfl | rfl | rfl | rfl <;> decide +kernel
theorem laws_markMC (es : List S105) (a0 a1 a2 a3 a4 a5 a6 : Int) (a7 : Bool) (cf : List Int) (d : ByteArray) (ls : Bool) (hl : es.length ≤ 4) (hc : cf.length ≤ 4) (v8 v9 : Value) (P Q : Nat → Prop) (w0 w : World) (hB : Below w0.heap.size w0 w)
    (h8 : Kd.R k105 105 w w0.heap.size P v8 es) (h9 : Kd.R (Kd.int .i64) 3 w w0.heap.size Q v9 cf) :
    Calls Try.prog 32 #[.agg #[.int .i64 a0, .int .i64 a1, .int .i64 a2, .int .i64 a3, .int .i64 a4, .int .i64 a5, .int .i64 a6, .bool a7, v8, v9, .string d, .bool ls], .int .i64 1] w
      fun e w' => e = .returned (.int .i64 (1 + 3 * (es.length : Int) + cf.length)) ∧ Kd.R k105 105 w' w0.heap.size (fun _ => True) v8 (marksE es.length) ∧ Kd.R (Kd.int .i64) 3 w' w0.heap.size (fun _ => True) v9 (PFnExactDecode.marksI (1 + 3 * (es.length : Int)) cf.length) ∧ Below w0.heap.size w0 w' ∧ Kept w w' (fun k => P k ∨ Q k) := by
  refine (PFnExactDecode.laws_markMessage.calls 20 a0 a1 a2 a3 a4 a5 a6 a7 P v8 es Q v9 cf d ls 1 (1 + 3 * (es.length : Int) + cf.length) (marksE es.length) (PFnExactDecode.marksI (1 + 3 * (es.length : Int)) cf.length) w0 w hB h8 h9 ?_).mono ?_
  · unfold PFnExactDecode.laws_markMessage.f
    rw [markE_f es hl, Option.bind_some, PFnExactDecode.markI_f cf (1 + 3 * (es.length : Int)) 20 (by omega) (by omega) (by omega) (by omega)]
    rfl
  · rintro e w' ⟨rfl, g8, g9, hb, hk⟩
    exact ⟨rfl, Kd.R_mono g8 (fun _ _ => trivial), Kd.R_mono g9 (fun _ _ => trivial), hb, hk⟩
theorem laws_heldMC (n m : Nat) (a0 a1 a2 a3 a4 a5 a6 : Int) (a7 : Bool) (d : ByteArray) (ls : Bool) (hn : n ≤ 4) (hm : m ≤ 4) (A8 : Option Addr) (c8 : Nat) (A9 : Option Addr) (c9 : Nat) (w : World) (h8 : n ≤ c8) (h9 : m ≤ c9) (g8 : Kd.C k105 w A8 n (marksE n)) (g9 : Kd.C (Kd.int .i64) w A9 m (PFnExactDecode.marksI (1 + 3 * (n : Int)) m)) :
    Calls Try.prog 33 #[.agg #[.int .i64 a0, .int .i64 a1, .int .i64 a2, .int .i64 a3, .int .i64 a4, .int .i64 a5, .int .i64 a6, .bool a7, .slice A8 n c8, .slice A9 m c9, .string d, .bool ls], .int .i64 1] w
      fun e w' => e = .returned (.int .i64 (1 + 3 * (n : Int) + m)) ∧ Below w.heap.size w w' := by
  have e8 := marksE_length hn
  have e9 := PFnExactDecode.marksI_length m (1 + 3 * (n : Int))
  have := PFnExactDecode.laws_heldMessage.calls 20 a0 a1 a2 a3 a4 a5 a6 a7 A8 c8 (marksE n) A9 c9 (PFnExactDecode.marksI (1 + 3 * (n : Int)) m) d ls 1 (1 + 3 * (n : Int) + m) w (by rw [e8]; exact g8) (by omega) (by rw [e9]; exact g9) (by omega) (by
    unfold PFnExactDecode.laws_heldMessage.f
    rw [heldE_f n hn, Option.bind_some, if_neg (by omega), PFnExactDecode.heldI_f m (1 + 3 * (n : Int)) 20 (by omega) (by omega) (by omega) (by omega), Option.bind_some, if_neg (by omega)])
  rw [e8, e9] at this
  exact this
end Go.Proofs.Ytofikijbmgejkaa
end

/-! ### YtofikijbmgejkaaMarkEqFnExactDecode -/
section
namespace Go.Proofs.Ytofikijbmgejkaa.PFnExactDecode
open Go.RowKit Go.Proofs.YtofikijbmgejkaaW.PrintWords
set_option linter.unusedSimpArgs false
set_option linter.unusedVariables false

theorem eqI_l0 (xs : List Int) (hl : xs.length ≤ 1099511627776) : ∀ (n k i : Nat), n + i = xs.length → n < k → laws_eqIntS.l0 k xs xs i = some true
  | _, 0, _, _, hk => by omega
  | 0, k + 1, i, h, hk => by
    unfold laws_eqIntS.l0
    rw [if_neg (by omega)]
  | n + 1, k + 1, i, h, hk => by
    have e1 : wrap64 ((i : Int) + 1) = ((i + 1 : Nat) : Int) := by unfold wrap64; omega
    unfold laws_eqIntS.l0
    rw [if_pos (by omega), if_pos (by omega), if_pos (by omega), if_pos rfl, e1]
    clear e1
    exact eqI_l0 xs hl n k (i + 1) (by omega) (by omega)
theorem eqI_f (xs : List Int) (k : Nat) (hk : xs.length < k) (hl : xs.length ≤ 1099511627776) : laws_eqIntS.f k xs xs = some true := by
  unfold laws_eqIntS.f
  rw [if_pos rfl]
  exact eqI_l0 xs hl xs.length k 0 (by omega) hk
end Go.Proofs.Ytofikijbmgejkaa.PFnExactDecode
end

/-! ### YtofikijbmgejkaaMsgEq -/
section
namespace Go.Proofs.Ytofikijbmgejkaa
open Go.RowKit Go.Proofs.YtofikijbmgejkaaW.PrintWords PFnExactDecode
set_option linter.unusedSimpArgs false
set_option linter.unusedVariables false

theorem eqE_l0 (xs : List S105) : ∀ (n k i : Nat), n + i = xs.length → n < k → xs.length < 4611686018427387904 → laws_eqEntryS.l0 k xs xs i = some true
  | 0, 0, _, _, hk, _ => by omega
  | 0, k + 1, i, h, hk, hl => by
    unfold laws_eqEntryS.l0
    rw [if_neg (by omega)]
  | n + 1, 0, _, _, hk, _ => by omega
  | n + 1, k + 1, i, h, hk, hl => by
    have e1 : wrap64 ((i : Int) + 1) = ((i + 1 : Nat) : Int) := by unfold wrap64; omega
    unfold laws_eqEntryS.l0 laws_eqEntry.f
    rw [if_pos (by omega), if_pos (by omega), if_pos (by omega), if_pos rfl, if_pos rfl, if_pos rfl, Option.bind_some, if_pos rfl, e1]
    clear e1
    exact eqE_l0 xs n k (i + 1) (by omega) (by omega) hl
theorem eqI_l0 (xs : List Int) : ∀ (n k i : Nat), n + i = xs.length → n < k → xs.length < 4611686018427387904 → laws_eqIntS.l0 k xs xs i = some true
  | 0, 0, _, _, hk, _ => by omega
  | 0, k + 1, i, h, hk, hl => by
    unfold laws_eqIntS.l0
    rw [if_neg (by omega)]
  | n + 1, 0, _, _, hk, _ => by omega
  | n + 1, k + 1, i, h, hk, hl => by
    have e1 : wrap64 ((i : Int) + 1) = ((i + 1 : Nat) : Int) := by unfold wrap64; omega
    unfold laws_eqIntS.l0
    rw [if_pos (by omega), if_pos (by omega), if_pos (by omega), if_pos rfl, e1]
    clear e1
    exact eqI_l0 xs n k (i + 1) (by omega) (by omega) hl
theorem eqEntryS_C (A : Option Addr) (a : Nat) (B : Option Addr) (b : Nat) (xs : List S105) (w : World) (hl : xs.length ≤ 1048576) (ha : xs.length ≤ a) (hb : xs.length ≤ b) (hA : Kd.C k105 w A xs.length xs) (hB : Kd.C k105 w B xs.length xs) :
    Calls Try.prog 77 #[.slice A xs.length a, .slice B xs.length b] w fun e w' => e = .returned (.bool true) ∧ Below w.heap.size w w' := by
  refine (PFnExactDecode.laws_eqEntryS.calls 1048577 A a xs B b xs true w hA ha hB hb ?_).mono ?_
  · unfold laws_eqEntryS.f
    rw [if_pos rfl]
    exact eqE_l0 xs xs.length 1048577 0 (by omega) (by omega) (by omega)
  · rintro e w' h
    first | exact h | (obtain ⟨rfl, n, rfl⟩ := h; exact ⟨rfl, bl_drewN (Below.refl _ _) n⟩)
theorem eqIntS_C (A : Option Addr) (a : Nat) (B : Option Addr) (b : Nat) (xs : List Int) (w : World) (hl : xs.length ≤ 1048576) (ha : xs.length ≤ a) (hb : xs.length ≤ b) (hA : Kd.C (Kd.int .i64) w A xs.length xs) (hB : Kd.C (Kd.int .i64) w B xs.length xs) :
    Calls Try.prog 27 #[.slice A xs.length a, .slice B xs.length b] w fun e w' => e = .returned (.bool true) ∧ Below w.heap.size w w' := by
  refine (PFnExactDecode.laws_eqIntS.calls 1048577 A a xs B b xs true w hA ha hB hb (PFnExactDecode.eqI_f xs 1048577 (by omega) (by omega))).mono ?_
  rintro e w' h
  first | exact h | (obtain ⟨rfl, n, rfl⟩ := h; exact ⟨rfl, bl_drewN (Below.refl _ _) n⟩)
set_option maxHeartbeats 1000000 in
set_option maxRecDepth 100000 in
theorem laws_eqMC (es : List S105) (a0 a1 a2 a3 a4 a5 a6 : Int) (a7 : Bool) (cf : List Int) (d : ByteArray) (ls : Bool) (hl : es.length ≤ 1048576) (hcl : cf.length ≤ 1048576) (B8 : Option Addr) (b8 : Nat) (B9 : Option Addr) (b9 : Nat) (D8 : Option Addr) (d8 : Nat) (D9 : Option Addr) (d9 : Nat) (w : World) (h8 : es.length ≤ b8) (h9 : cf.length ≤ b9) (hC8 : Kd.C k105 w B8 es.length es) (hC9 : Kd.C (Kd.int .i64) w B9 cf.length cf)
    (g8 : es.length ≤ d8) (g9 : cf.length ≤ d9) (gC8 : Kd.C k105 w D8 es.length es) (gC9 : Kd.C (Kd.int .i64) w D9 cf.length cf) :
    Calls Try.prog 31 #[.agg #[.int .i64 a0, .int .i64 a1, .int .i64 a2, .int .i64 a3, .int .i64 a4, .int .i64 a5, .int .i64 a6, .bool a7, .slice B8 es.length b8, .slice B9 cf.length b9, .string d, .bool ls], .agg #[.int .i64 a0, .int .i64 a1, .int .i64 a2, .int .i64 a3, .int .i64 a4, .int .i64 a5, .int .i64 a6, .bool a7, .slice D8 es.length d8, .slice D9 cf.length d9, .string d, .bool ls]] w fun e w' => e = .returned (.bool true) ∧ Below w.heap.size w w' := by
  have HB8 := Lib.hid hC8
  have HB9 := Lib.hid hC9
  have HD8 := Lib.hid gC8
  have HD9 := Lib.hid gC9
  clear hC8 hC9 gC8 gC9
  go_enter Try.func31, Try.ntmps31
  go_wp2_with (first
    | (go_at_call 77; refine (eqEntryS_C _ _ _ _ es _ hl h8 g8 (Kd.C_below HB8.out (by repeat (first | exact Below.refl _ _ | apply bl_alloc | apply bl_drewN | apply bl_drew | refine bl_set ?_ (by simp) | refine bl_then ?_ (by assumption)))) (Kd.C_below HD8.out (by repeat (first | exact Below.refl _ _ | apply bl_alloc | apply bl_drewN | apply bl_drew | refine bl_set ?_ (by simp) | refine bl_then ?_ (by assumption))))).mono ?_; rintro e w' ⟨rfl, hb⟩; obtain ⟨hc, hf⟩ := bcell hb; have hz : w.heap.size + 1 < w'.heap.size := (by have := hb.size; simp at this; omega); have hz2 : w.heap.size < w'.heap.size := (by omega))
    | (go_at_call 27; refine (eqIntS_C _ _ _ _ cf _ hcl h9 g9 (Kd.C_below HB9.out (by repeat (first | exact Below.refl _ _ | apply bl_alloc | apply bl_drewN | apply bl_drew | refine bl_set ?_ (by simp) | refine bl_then ?_ (by assumption)))) (Kd.C_below HD9.out (by repeat (first | exact Below.refl _ _ | apply bl_alloc | apply bl_drewN | apply bl_drew | refine bl_set ?_ (by simp) | refine bl_then ?_ (by assumption))))).mono ?_; rintro e w' ⟨rfl, hb⟩; obtain ⟨hc, hf⟩ := bcell hb; have hz : w.heap.size + 1 < w'.heap.size := (by have := hb.size; (try simp at this); omega); have hz2 : w.heap.size < w'.heap.size := (by omega)))
  all_goals
    go_ret
    exact ⟨rfl, (by repeat (first | exact Below.refl _ _ | apply bl_alloc | apply bl_drewN | apply bl_drew | refine bl_set ?_ (by simp) | refine bl_then ?_ (by assumption)))⟩
end Go.Proofs.Ytofikijbmgejkaa
end
