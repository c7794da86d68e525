import Derived.Test.YtlbikcelfheohabOSameHouseA
import Derived.Test.YtlbikcelfheohabPSameHouseC

/-! ### YtlbikcelfheohabFlow -/
section
namespace Go.Proofs.Ytlbikcelfheohab
open Go.RowKit
set_option linter.unusedVariables false

/-! A REGION THAT DRAWS ITS ORDER: EVERY ORDER BY WHAT IS KNOWN OF THE VALUES. Each operation gets a predicate on the world and its value, kept by whatever lays blocks; each operation is shown in every frame in which the operations that it waits for have brought what their predicates say. So a value may be another in another order (a new slice's address). (own) -/
section
variable {P : Program}
abbrev VPred := World → Value → Prop
def VMono (R : VPred) : Prop := ∀ w w' v, R w v → Below w.heap.size w w' → R w' v
theorem vmono_eq (e : Value) : VMono (fun _ v => v = e) := fun _ _ _ h _ => h

def flowUpon (P : Program) (R : VPred) (w : World) : Result Next → Prop
  | .ok (.value u) w' => Below w.heap.size w w' ∧ R w' u
  | .ok .skip w' => Below w.heap.size w w' ∧ R w' undef
  | .ok (.enter f args) w' => Calls P f args w' (fun e w'' => ∃ v, e = .returned v ∧ Below w.heap.size w w'' ∧ R w'' v)
  | _ => False

abbrev FTab := List (Nat × Tmp × VPred)
def dep1 (A : Act) (w : World) (j : Nat) : FTab → Prop
  | [] => True
  | (i, d, R) :: r => if i = j then R w (A.eval (.tmp d)) else dep1 A w j r
def deps (T : FTab) (A : Act) (w : World) : List Edge → Prop
  | [] => True
  | e :: r => (if Region.binds .any e = true then dep1 A w e.on T else True) ∧ deps T A w r
def allT (x : Nat → Value) (w : World) : FTab → Prop
  | [] => True
  | (i, _, R) :: r => R w (x i) ∧ allT x w r
def baseF (A a : Act) : List Nat → Prop
  | [] => True
  | t :: r => A.eval (.tmp t) = a.eval (.tmp t) ∧ baseF A a r
def frameOf (x : Nat → Value) : List Oper → Nat → Act → Act
  | [], _, a => a
  | o :: r, k, a => frameOf x r (k + 1) (a.put o.dst (x k))
def addT (o : Oper) (i : Nat) (R : VPred) (T : FTab) : FTab := match o.dst with
  | some d => (i, d, R) :: T
  | none => T

def Flow (P : Program) (w : World) (a : Act) (bs : List Nat) (Q : Exit → Act → World → Prop) (l0 : List Oper) : List Oper → Nat → FTab → Prop
  | [], _, T => ∀ x w', Below w.heap.size w w' → allT x w' T → Q .normal (frameOf x l0 0 a) w'
  | o :: rest, i, T => ∃ R : VPred, VMono R ∧
      (∀ A w', Below w.heap.size w w' → baseF A a bs → deps T A w' o.after.toList → flowUpon P R w' ((execOp A.eval o).run P w')) ∧ Flow P w a bs Q l0 rest (i + 1) (addT o i R T)

theorem dep1_of {A : Act} {w : World} {j : Nat} : ∀ {T : FTab}, (∀ d R, (j, d, R) ∈ T → R w (A.eval (.tmp d))) → dep1 A w j T
  | [], _ => trivial
  | (i, d, R) :: r, h => by
    unfold dep1
    split
    · rename_i e; subst e; exact h d R (.head _)
    · exact dep1_of fun d R hm => h d R (.tail _ hm)
theorem deps_of {T : FTab} {A : Act} {w : World} : ∀ {es : List Edge}, (∀ e ∈ es, Region.binds .any e = true → ∀ d R, (e.on, d, R) ∈ T → R w (A.eval (.tmp d))) → deps T A w es
  | [], _ => trivial
  | e :: r, h => by
    refine ⟨?_, deps_of fun e he => h e (.tail _ he)⟩
    split
    · rename_i hb; exact dep1_of (h e (.head _) hb)
    · trivial
theorem allT_of {x : Nat → Value} {w : World} : ∀ {T : FTab}, (∀ i d R, (i, d, R) ∈ T → R w (x i)) → allT x w T
  | [], _ => trivial
  | (i, d, R) :: r, h => ⟨h i d R (.head _), allT_of fun i d R hm => h i d R (.tail _ hm)⟩
theorem baseF_of {A a : Act} : ∀ {bs : List Nat}, (∀ t ∈ bs, A.eval (.tmp t) = a.eval (.tmp t)) → baseF A a bs
  | [], _ => trivial
  | t :: r, h => ⟨h t (.head _), baseF_of fun t ht => h t (.tail _ ht)⟩

theorem flow_table {w : World} {a : Act} {bs : List Nat} {Q : Exit → Act → World → Prop} {l0 : List Oper} : ∀ (rest : List Oper) (i : Nat) (T : FTab), (∀ k d R, (k, d, R) ∈ T → k < i) → Flow P w a bs Q l0 rest i T →
    ∃ T' : FTab, (∀ x ∈ T, x ∈ T') ∧ (∀ k d R, (k, d, R) ∈ T' → k < i → (k, d, R) ∈ T) ∧ (∀ k d R, (k, d, R) ∈ T' → k < i + rest.length) ∧
      (∀ (j : Nat) (o : Oper), rest[j]? = some o → ∃ R, VMono R ∧ (∀ d' R', (i + j, d', R') ∈ T' → o.dst = some d' ∧ R' = R) ∧
        (∀ A w', Below w.heap.size w w' → baseF A a bs → (∀ e ∈ o.after.toList, Region.binds .any e = true → ∀ d R, (e.on, d, R) ∈ T' → R w' (A.eval (.tmp d))) → flowUpon P R w' ((execOp A.eval o).run P w'))) ∧
      (∀ x w', Below w.heap.size w w' → allT x w' T' → Q .normal (frameOf x l0 0 a) w')
  | [], i, T, hT, h => ⟨T, fun _ h => h, fun _ _ _ h _ => h, fun k d R hm => by simpa using hT k d R hm, fun j o hj => by simp at hj, h⟩
  | o :: rest, i, T, hT, h => by
    obtain ⟨R, hmono, hobl, hrest⟩ := h
    have hT1 : ∀ k d R', (k, d, R') ∈ addT o i R T → k < i + 1 := fun k d R' hm => by
      unfold addT at hm
      split at hm
      · rcases List.mem_cons.1 hm with hm | hm
        · simp only [Prod.mk.injEq] at hm; omega
        · have := hT k d R' hm; omega
      · have := hT k d R' hm; omega
    have hsub : ∀ y ∈ T, y ∈ addT o i R T := fun y hy => by
      unfold addT
      split
      · exact .tail _ hy
      · exact hy
    obtain ⟨T', h1, h2, h3, h4, h5⟩ := flow_table rest (i + 1) (addT o i R T) hT1 hrest
    refine ⟨T', fun y hy => h1 y (hsub y hy), fun k d R' hm hk => ?_, fun k d R' hm => ?_, fun j o' hj => ?_, h5⟩
    · have := h2 k d R' hm (by omega)
      unfold addT at this
      split at this
      · rcases List.mem_cons.1 this with hm | hm
        · simp only [Prod.mk.injEq] at hm; omega
        · exact hm
      · exact this
    · have := h3 k d R' hm
      simp only [List.length_cons]; omega
    · cases j with
      | zero =>
        simp only [List.getElem?_cons_zero, Option.some.injEq] at hj
        subst hj
        refine ⟨R, hmono, fun d' R' hm => ?_, fun A w' hb hbase hd => hobl A w' hb hbase (deps_of fun e he hbn d R' hm => hd e he hbn d R' (h1 _ (hsub _ hm)))⟩
        have := h2 _ d' R' hm (by omega)
        unfold addT at this
        split at this
        · rename_i dd hdd
          rcases List.mem_cons.1 this with hm | hm
          · simp only [Prod.mk.injEq] at hm
            exact ⟨by rw [hdd, hm.2.1], hm.2.2⟩
          · have := hT _ d' R' hm; omega
        · have := hT _ d' R' this; omega
      | succ j =>
        simp only [List.getElem?_cons_succ] at hj
        obtain ⟨R2, a1, a2, a3⟩ := h4 j o' hj
        exact ⟨R2, a1, fun d' R' hm => a2 d' R' (by rw [show i + 1 + j = i + (j + 1) from by omega]; exact hm), a3⟩

theorem wpAny_inv {ops : Array Oper} {Q : Exit → Act → World → Prop} {md : Region.Mode} (I : Array Bool → Act → World → Prop)
    (step : ∀ listed a w i, I listed a w → i ∈ Region.ready md ops listed → wpOp P ops Q i (fun a' w' => I (listed.setIfInBounds i true) a' w') a w)
    (fin : ∀ listed a w, I listed a w → (∀ i, i ∉ Region.ready md ops listed) → Q .normal a w) (rank : Array Bool → Nat)
    (hr : ∀ listed a w i, I listed a w → i ∈ Region.ready md ops listed → rank (listed.setIfInBounds i true) < rank listed) :
    ∀ (fuel : Nat) (listed : Array Bool) (a : Act) (w : World), rank listed ≤ fuel → I listed a w → wpAny P md ops Q fuel listed a w
  | 0, listed, a, w, hf, h => by
    have hn : ∀ i, i ∉ Region.ready md ops listed := fun i hi => by have := hr listed a w i h hi; omega
    exact ⟨List.eq_nil_iff_forall_not_mem.2 hn, fin _ _ _ h hn⟩
  | fuel + 1, listed, a, w, hf, h => ⟨fun h0 => fin _ _ _ h (by rw [h0]; simp), fun i hi => wpOp_mono (fun a' w' h' => wpAny_inv I step fin rank hr fuel _ a' w' (by have := hr listed a w i h hi; omega) h') (step _ _ _ _ h hi)⟩

theorem frame_eq (x : Nat → Value) (A : Act) : ∀ (l : List Oper) (k : Nat) (a : Act), A.defers = a.defers → A.tmps.size = a.tmps.size →
    (∀ (i : Nat) (o : Oper) d, l[i]? = some o → o.dst = some d → d < a.tmps.size → A.tmps[d]? = some (x (k + i))) → (∀ t, a.tmps[t]? ≠ A.tmps[t]? → ∃ (i : Nat) (o : Oper), l[i]? = some o ∧ o.dst = some t) → frameOf x l k a = A
  | [], k, a, hdef, hsz, _, h => by
    have ht : a.tmps = A.tmps := by
      apply Array.ext_getElem?
      intro t
      by_cases he : a.tmps[t]? = A.tmps[t]?
      · exact he
      · obtain ⟨i, o, hi, _⟩ := h t he
        simp at hi
    obtain ⟨t1, d1⟩ := a
    obtain ⟨t2, d2⟩ := A
    simp only at ht hdef
    subst ht hdef
    rfl
  | o :: r, k, a, hdef, hsz, h1, h2 => by
    have hps : (a.put o.dst (x k)).tmps.size = a.tmps.size := by unfold Act.put; split <;> simp
    have hpd : (a.put o.dst (x k)).defers = a.defers := by unfold Act.put; split <;> rfl
    refine frame_eq x A r (k + 1) (a.put o.dst (x k)) (hdef.trans hpd.symm) (hsz.trans hps.symm) (fun i o' d hi hd hlt => ?_) (fun t ht => ?_)
    · have := h1 (i + 1) o' d (by simpa using hi) hd (by rw [hps] at hlt; exact hlt)
      rw [this]; congr 2; omega
    · have hto : o.dst ≠ some t := fun ho => by
        rcases Nat.lt_or_ge t a.tmps.size with hlt | hge
        · have := h1 0 o t (by simp) ho hlt
          rw [this] at ht
          rw [ho] at ht
          simp [Act.put, hlt] at ht
        · rw [Array.getElem?_eq_none (by omega), Array.getElem?_eq_none (by omega)] at ht
          exact ht rfl
      have hsame : (a.put o.dst (x k)).tmps[t]? = a.tmps[t]? := by
        unfold Act.put
        split
        · rename_i d hd
          have : d ≠ t := fun e => hto (by rw [hd, e])
          simp [Array.getElem?_setIfInBounds_ne this]
        · rfl
      rw [hsame] at ht
      obtain ⟨i, o', hi, hd⟩ := h2 t ht
      cases i with
      | zero => simp at hi; subst hi; exact absurd hd hto
      | succ i => exact ⟨i, o', by simpa using hi, hd⟩

/-- The places written are not written twice, and lie in the frame; no operation is guarded. -/
def flowB (n : Nat) : List Oper → Bool
  | [] => true
  | o :: r => o.guard.isNone && (match o.dst with | some d => decide (d < n) && r.all (fun o' => o'.dst != some d) | none => true) && flowB n r
theorem flowB_spec {n : Nat} : ∀ {l : List Oper}, flowB n l = true → ∀ (i : Nat) (o : Oper), l[i]? = some o → o.guard = none ∧ ∀ d, o.dst = some d → d < n ∧ ∀ (j : Nat) (o' : Oper), l[j]? = some o' → i < j → o'.dst ≠ some d
  | [], _, i, o, hi => by simp at hi
  | o0 :: r, h, i, o, hi => by
    simp only [flowB, Bool.and_eq_true] at h
    obtain ⟨⟨hg, hd⟩, hr⟩ := h
    cases i with
    | zero =>
      simp only [List.getElem?_cons_zero, Option.some.injEq] at hi
      subst hi
      refine ⟨by simpa using hg, fun d hdd => ?_⟩
      rw [hdd] at hd
      simp only [Bool.and_eq_true, decide_eq_true_eq, List.all_eq_true, bne_iff_ne] at hd
      refine ⟨hd.1, fun j o' hj hlt => ?_⟩
      cases j with
      | zero => omega
      | succ j => exact hd.2 o' (List.mem_of_getElem? (by simpa using hj))
    | succ i =>
      obtain ⟨h1, h2⟩ := flowB_spec hr i o (by simpa using hi)
      refine ⟨h1, fun d hdd => ⟨(h2 d hdd).1, fun j o' hj hlt => ?_⟩⟩
      cases j with
      | zero => omega
      | succ j => exact (h2 d hdd).2 j o' (by simpa using hj) (by omega)

/-- What is waited for stands ahead. -/
def flowO : List Oper → Nat → Bool
  | [], _ => true
  | o :: r, k => o.after.toList.all (fun e => !Region.binds .any e || decide (e.on < k)) && flowO r (k + 1)
theorem flowO_spec : ∀ {l : List Oper} {k : Nat}, flowO l k = true → ∀ (i : Nat) (o : Oper), l[i]? = some o → ∀ e ∈ o.after.toList, Region.binds .any e = true → e.on < k + i
  | [], _, _, i, o, hi => by simp at hi
  | o0 :: r, k, h, i, o, hi => by
    simp only [flowO, Bool.and_eq_true] at h
    cases i with
    | zero =>
      simp only [List.getElem?_cons_zero, Option.some.injEq] at hi
      subst hi
      intro e he hb
      have := List.all_eq_true.1 h.1 e he
      simpa [hb] using this
    | succ i =>
      intro e he hb
      have := flowO_spec h.2 i o (by simpa using hi) e he hb
      omega

def unl : List Bool → Nat
  | [] => 0
  | true :: r => unl r
  | false :: r => unl r + 1
theorem unl_set : ∀ (l : List Bool) (i : Nat), l[i]? = some false → unl (l.set i true) < unl l
  | [], i, h => by simp at h
  | b :: r, 0, h => by simp at h; subst h; simp [unl]
  | b :: r, i + 1, h => by
    have := unl_set r i (by simpa using h)
    cases b <;> simp [unl] <;> omega
theorem unl_rep : ∀ n : Nat, unl (List.replicate n false) = n
  | 0 => rfl
  | n + 1 => by simp [List.replicate_succ, unl, unl_rep n]

theorem flow_upon {o : Oper} {A : Act} {w : World} {R : VPred} {K : Act → World → Prop} {Q : Exit → Act → World → Prop}
    (h : flowUpon P R w ((execOp A.eval o).run P w)) (hk : ∀ v w', Below w.heap.size w w' → (R w' v) → K (A.put o.dst v) w') : o.wp P A w K Q := by
  unfold Oper.wp
  generalize (execOp A.eval o).run P w = r at *
  cases r with
  | ok n w' =>
    cases n <;> simp only [flowUpon] at h <;> simp only [Oper.upon]
    case value u => exact hk _ _ h.1 h.2
    case skip => exact hk _ _ h.1 h.2
    case enter f args =>
      refine h.mono ?_
      rintro e w2 ⟨v, rfl, hb, hr⟩
      exact hk _ _ hb hr
  | halt x w' => simp only [flowUpon] at h

theorem eval_put_ne {A : Act} {o : Oper} {v : Value} {d : Tmp} (h : o.dst ≠ some d) : (A.put o.dst v).eval (.tmp d) = A.eval (.tmp d) := by
  unfold Act.put
  split
  · rename_i t ht
    have : t ≠ d := fun e => h (by rw [ht, e])
    simp only [Act.eval, Array.getD_eq_getD_getElem?]
    rw [Array.getElem?_setIfInBounds_ne this]
  · rfl
theorem eval_put_eq {A : Act} {o : Oper} {v : Value} {d : Tmp} (h : o.dst = some d) (hlt : d < A.tmps.size) : (A.put o.dst v).eval (.tmp d) = v := by
  rw [h]
  simp [Act.put, Act.eval, Array.getD_eq_getD_getElem?, hlt]

theorem wp_region_flow {id : Nat} {Q : Exit → Act → World → Prop} {a : Act} {w : World} {l : List Oper} (bs : List Nat) (n : Nat) (hm : P.follows .mixedOrders = true) (hn : a.tmps.size = n)
    (hB : flowB n l = true) (hO : flowO l 0 = true) (hbs : bs.all (fun t => l.all (fun o => o.dst != some t)) = true) (h : Flow P w a bs Q l l 0 []) : (Code.region id l.toArray true).wp P Q a w := by
  obtain ⟨T, -, -, hlen, hobl, hfin⟩ := flow_table l 0 [] (by simp) h
  subst hn
  refine wp_region_any hm ?_
  refine wpAny_inv (fun listed A w' => listed.size = l.length ∧ Below w.heap.size w w' ∧ A.defers = a.defers ∧ A.tmps.size = a.tmps.size ∧ (∀ t, a.tmps[t]? ≠ A.tmps[t]? → ∃ (i : Nat) (o : Oper), l[i]? = some o ∧ o.dst = some t) ∧
      (∀ i d R, (i, d, R) ∈ T → listed.getD i false = true → R w' (A.eval (.tmp d)))) ?_ ?_ (fun listed => unl listed.toList) ?_ _ _ _ _ ?_ ?_
  · rintro listed A w' i ⟨hsz, hbel, hdef, hts, hdiff, hall⟩ hi
    obtain ⟨hun, o, ho, haft⟩ := mem_ready.1 hi
    have ho' : l[i]? = some o := by simpa using ho
    obtain ⟨hg, hd⟩ := flowB_spec hB i o ho'
    obtain ⟨R, hmono, huniq, hob⟩ := hobl i o ho'
    simp only [Nat.zero_add] at huniq
    unfold wpOp
    rw [ho]
    simp only [Region.wanted, hg, if_true]
    refine .inl (flow_upon (hob A w' hbel (baseF_of fun t ht => ?_) fun e he hb d R hmem => hall _ d R hmem (haft e (by simpa using he) hb)) fun v w2 hb2 hR => ?_)
    · have h1 := List.all_eq_true.1 hbs t ht
      have h2 : ∀ o ∈ l, o.dst ≠ some t := fun o ho => by simpa using List.all_eq_true.1 h1 o ho
      have h3 : a.tmps[t]? = A.tmps[t]? := Classical.byContradiction fun hne => by
        obtain ⟨i, o, hi, hd⟩ := hdiff t hne
        exact h2 o (List.mem_of_getElem? hi) hd
      simp only [Act.eval, Array.getD_eq_getD_getElem?, h3]
    · refine ⟨by simpa using hsz, hbel.trans ⟨hb2.os, hb2.tape, hb2.output, hb2.size, fun k hk => hb2.block k (Nat.lt_of_lt_of_le hk hbel.size)⟩, ?_, ?_, ?_, ?_⟩
      · rw [← hdef]; unfold Act.put; split <;> rfl
      · rw [← hts]; unfold Act.put; split <;> simp
      · intro t ht
        by_cases hdt : o.dst = some t
        · exact ⟨i, o, ho', hdt⟩
        · refine hdiff t fun he => ht ?_
          rw [he]
          unfold Act.put
          split
          · rename_i t' ht'
            have : t' ≠ t := fun e => hdt (by rw [ht', e])
            rw [Array.getElem?_setIfInBounds_ne this]
          · rfl
      · intro k d R' hmem hk
        by_cases hki : i = k
        · subst hki
          obtain ⟨hod, rfl⟩ := huniq d R' hmem
          rw [eval_put_eq hod (by rw [hts]; exact (hd d hod).1)]
          exact hR
        · have hk' : listed.getD k false = true := by rw [getD_set_ne false hki] at hk; exact hk
          have hold := hall k d R' hmem hk'
          have hkl : k < l.length := by simpa using hlen k d R' hmem
          have hko : l[k]? = some l[k] := by simp [hkl]
          obtain ⟨R2, hmono2, huniq2, -⟩ := hobl k l[k] hko
          simp only [Nat.zero_add] at huniq2
          obtain ⟨hod, rfl⟩ := huniq2 d R' hmem
          have hne : o.dst ≠ some d := fun hd0 => by
            rcases Nat.lt_or_gt_of_ne hki with h | h
            · exact (hd d hd0).2 k l[k] hko h hod
            · exact ((flowB_spec hB k l[k] hko).2 d hod).2 i o ho' h hd0
          rw [eval_put_ne hne]
          exact hmono2 _ _ _ hold hb2
  · rintro listed A w' ⟨hsz, hbel, hdef, hts, hdiff, hall⟩ hno
    have hdone : ∀ k, k < l.length → listed.getD k false = true := by
      intro k
      induction k using Nat.strongRecOn with
      | _ k ih =>
        intro hk
        refine Classical.byContradiction fun hf => hno k (mem_ready.2 ⟨?_, l[k], by simp [hk], fun e he hb => ?_⟩)
        · have hks : k < listed.size := by omega
          simp only [Array.getD_eq_getD_getElem?, Array.getElem?_eq_getElem hks, Option.getD_some] at hf ⊢
          simpa using hf
        · have hlt := flowO_spec hO k l[k] (by simp [hk]) e (by simpa using he) hb
          exact ih e.on (by omega) (by omega)
    have hx : frameOf (fun i => match (l[i]?).bind (·.dst) with | some d => A.eval (.tmp d) | none => undef) l 0 a = A := by
      refine frame_eq _ A l 0 a hdef hts (fun i o d hi hd hlt => ?_) hdiff
      simp only [Nat.zero_add, hi, Option.bind_some, hd, Act.eval, Array.getD_eq_getD_getElem?]
      have : d < A.tmps.size := by rw [hts]; exact hlt
      simp [this]
    have := hfin (fun i => match (l[i]?).bind (·.dst) with | some d => A.eval (.tmp d) | none => undef) w' hbel (allT_of fun k d R hmem => by
      have hkl : k < l.length := by simpa using hlen k d R hmem
      have hko : l[k]? = some l[k] := by simp [hkl]
      obtain ⟨R2, -, huniq2, -⟩ := hobl k l[k] hko
      simp only [Nat.zero_add] at huniq2
      obtain ⟨hod, -⟩ := huniq2 d R hmem
      simp only [hko, Option.bind_some, hod]
      exact hall k d R hmem (hdone k hkl))
    rw [hx] at this
    exact this
  · rintro listed A w' i ⟨hsz, -⟩ hi
    obtain ⟨hun, o, ho, -⟩ := mem_ready.1 hi
    have hil : i < listed.size := by have := (Array.getElem?_eq_some_iff.1 ho).1; simp at this; omega
    simp only [Array.toList_setIfInBounds]
    refine unl_set _ _ ?_
    simp only [Array.getD_eq_getD_getElem?, Array.getElem?_eq_getElem hil, Option.getD_some] at hun
    simp [hil, hun]
  · simp [unl_rep]
  · exact ⟨by simp, ⟨rfl, rfl, rfl, Nat.le_refl _, fun _ _ => rfl⟩, rfl, rfl, fun t ht => absurd rfl ht, fun i d R _ hl => by simp [Array.getD_eq_getD_getElem?, Array.getElem?_replicate] at hl; split at hl <;> simp at hl⟩

theorem flow_val {w : World} {a : Act} {bs : List Nat} {Q : Exit → Act → World → Prop} {l0 rest : List Oper} {i : Nat} {T : FTab} {d : Tmp} {op : Op} {ty : TypeId} {pos : String} {es : Array Edge} {g : Option (Nat × Bool)} (e : Value)
    (h : ∀ A w', Below w.heap.size w w' → baseF A a bs → deps T A w' es.toList → flowUpon P (fun _ v => v = e) w' ((execOp A.eval ⟨some d, op, ty, pos, es, g⟩).run P w'))
    (k : Flow P w a bs Q l0 rest (i + 1) ((i, d, fun _ v => v = e) :: T)) : Flow P w a bs Q l0 (⟨some d, op, ty, pos, es, g⟩ :: rest) i T := ⟨_, vmono_eq e, h, k⟩
/-- A new block of these cells, told by a slice. -/
def NewSl (w0 : World) (cs : Array Value) (T : TypeId) (n : Nat) : VPred := fun w v => ∃ b, v = .slice (some ⟨b, 0, none⟩) n n ∧ w0.heap.size ≤ b ∧ w.heap[b]? = some (.cells cs T (0, 0))
theorem vmono_newSl (w0 : World) (cs : Array Value) (T : TypeId) (n : Nat) : VMono (NewSl w0 cs T n) := by
  rintro w w' v ⟨b, hv, hb, hc⟩ hB
  refine ⟨b, hv, hb, ?_⟩
  have hlt : b < w.heap.size := by
    rcases Nat.lt_or_ge b w.heap.size with h | h
    · exact h
    · rw [Array.getElem?_eq_none h] at hc; cases hc
  rw [hB.block b hlt]; exact hc
theorem flow_newSl {w : World} {a : Act} {bs : List Nat} {Q : Exit → Act → World → Prop} {l0 rest : List Oper} {i : Nat} {T : FTab} {d : Tmp} {op : Op} {ty : TypeId} {pos : String} {es : Array Edge} {g : Option (Nat × Bool)} (cs : Array Value) (et : TypeId) (n : Nat)
    (h : ∀ A w', Below w.heap.size w w' → baseF A a bs → deps T A w' es.toList → (execOp A.eval ⟨some d, op, ty, pos, es, g⟩).run P w' = .ok (.value (.slice (some ⟨w'.heap.size, 0, none⟩) n n)) (w'.alloc (.cells cs et)))
    (k : Flow P w a bs Q l0 rest (i + 1) ((i, d, NewSl w cs et n) :: T)) : Flow P w a bs Q l0 (⟨some d, op, ty, pos, es, g⟩ :: rest) i T :=
  ⟨_, vmono_newSl w cs et n, fun A w' hB hb hd => by
    rw [h A w' hB hb hd]
    exact ⟨bl_alloc (Below.refl _ _) _, w'.heap.size, rfl, hB.size, by simpa using heap_alloc_new w' _⟩, k⟩
theorem flow_valE {w : World} {a : Act} {bs : List Nat} {Q : Exit → Act → World → Prop} {l0 rest : List Oper} {i : Nat} {T : FTab} {d : Tmp} {op : Op} {ty : TypeId} {pos : String} {es : Array Edge} {g : Option (Nat × Bool)}
    (h : ∃ e, (∀ A w', Below w.heap.size w w' → baseF A a bs → deps T A w' es.toList → flowUpon P (fun _ v => v = e) w' ((execOp A.eval ⟨some d, op, ty, pos, es, g⟩).run P w')) ∧
      Flow P w a bs Q l0 rest (i + 1) ((i, d, fun _ v => v = e) :: T)) : Flow P w a bs Q l0 (⟨some d, op, ty, pos, es, g⟩ :: rest) i T :=
  let ⟨e, h, k⟩ := h
  flow_val e h k
theorem flow_newSlE {w : World} {a : Act} {bs : List Nat} {Q : Exit → Act → World → Prop} {l0 rest : List Oper} {i : Nat} {T : FTab} {d : Tmp} {op : Op} {ty : TypeId} {pos : String} {es : Array Edge} {g : Option (Nat × Bool)}
    (h : ∃ cs et n, (∀ A w', Below w.heap.size w w' → baseF A a bs → deps T A w' es.toList → (execOp A.eval ⟨some d, op, ty, pos, es, g⟩).run P w' = .ok (.value (.slice (some ⟨w'.heap.size, 0, none⟩) n n)) (w'.alloc (.cells cs et))) ∧
      Flow P w a bs Q l0 rest (i + 1) ((i, d, NewSl w cs et n) :: T)) : Flow P w a bs Q l0 (⟨some d, op, ty, pos, es, g⟩ :: rest) i T :=
  let ⟨cs, et, n, h, k⟩ := h
  flow_newSl cs et n h k
theorem flow_R {w : World} {a : Act} {bs : List Nat} {Q : Exit → Act → World → Prop} {l0 rest : List Oper} {i : Nat} {T : FTab} {d : Tmp} {op : Op} {ty : TypeId} {pos : String} {es : Array Edge} {g : Option (Nat × Bool)} (R : VPred) (hm : VMono R)
    (h : ∀ A w', Below w.heap.size w w' → baseF A a bs → deps T A w' es.toList → flowUpon P R w' ((execOp A.eval ⟨some d, op, ty, pos, es, g⟩).run P w'))
    (k : Flow P w a bs Q l0 rest (i + 1) ((i, d, R) :: T)) : Flow P w a bs Q l0 (⟨some d, op, ty, pos, es, g⟩ :: rest) i T := ⟨R, hm, h, k⟩
end
end Go.Proofs.Ytlbikcelfheohab
end

/-! ### YtlbikcelfheohabHouseArg -/
section
namespace Go.Proofs.Ytlbikcelfheohab
open Go.RowKit Go.Proofs.YtlbikcelfheohabW.PrintWords PFnExactSameHouse
set_option linter.unusedSimpArgs false
set_option linter.unusedVariables false

theorem opens_told (W : World) : Opens Try.prog W 219 k219 (fun x => x.f1.size ≤ maxLen) :=
  Opens.imp (opens_iso (d := Kd.pair (Kd.int .i64) Kd.string) (p := fun x : S219 => (x.f0, x.f1)) (fun t => ⟨t.1, t.2⟩) (fun _ => rfl)
    (opens_struct Try.underlying219 (by kernel_rfl) (opensL_cons rfl (opens_int Try.underlying3) (by kernel_rfl) (opensL_last rfl (opens_string Try.underlying9) (by kernel_rfl))))) (fun _ h => h.2)
theorem opens_session (W : World) : Opens Try.prog W 174 k174 (fun x => x.f2.length ≤ maxLen ∧ ∀ y ∈ x.f2, y.f1.size ≤ maxLen) :=
  Opens.imp (opens_iso (d := Kd.pair (Kd.int .i64) (Kd.pair (Kd.int .i64) (Kd.slice 219 k219))) (p := fun x : S174 => (x.f0, x.f1, x.f2)) (fun t => ⟨t.1, t.2.1, t.2.2⟩) (fun _ => rfl)
    (opens_struct Try.underlying174 (by kernel_rfl) (opensL_cons rfl (opens_int Try.underlying3) (by kernel_rfl) (opensL_cons rfl (opens_int Try.underlying3) (by kernel_rfl)
      (opensL_last rfl (opens_slice Try.underlying172 (by kernel_rfl) (opens_told W)) (by kernel_rfl)))))) (fun _ h => h.2.2)
theorem opens_listen (W : World) : Opens Try.prog W 179 k179 (fun _ => True) :=
  Opens.imp (opens_iso (d := Kd.pair (Kd.int .i64) (Kd.int .i64)) (p := fun x : S179 => (x.f0, x.f1)) (fun t => ⟨t.1, t.2⟩) (fun _ => rfl)
    (opens_struct Try.underlying179 (by kernel_rfl) (opensL_cons rfl (opens_int Try.underlying3) (by kernel_rfl) (opensL_last rfl (opens_int Try.underlying3) (by kernel_rfl))))) (fun _ _ => trivial)
theorem opens_queue (W : World) : Opens Try.prog W 176 k176 (fun x => x.f2.length ≤ maxLen ∧ ∀ y ∈ x.f2, y.size ≤ maxLen) :=
  Opens.imp (opens_iso (d := Kd.pair (Kd.int .i64) (Kd.pair (Kd.int .i64) (Kd.slice 9 Kd.string))) (p := fun x : S176 => (x.f0, x.f1, x.f2)) (fun t => ⟨t.1, t.2.1, t.2.2⟩) (fun _ => rfl)
    (opens_struct Try.underlying176 (by kernel_rfl) (opensL_cons rfl (opens_int Try.underlying3) (by kernel_rfl) (opensL_cons rfl (opens_int Try.underlying3) (by kernel_rfl)
      (opensL_last rfl (opens_slice Try.underlying125 (by kernel_rfl) (opens_string Try.underlying9)) (by kernel_rfl)))))) (fun _ h => h.2.2)
theorem opens_lease (W : World) : Opens Try.prog W 182 k182 (fun _ => True) :=
  Opens.imp (opens_iso (d := Kd.pair (Kd.int .i64) (Kd.pair (Kd.int .i64) (Kd.int .i64))) (p := fun x : S182 => (x.f0, x.f1, x.f2)) (fun t => ⟨t.1, t.2.1, t.2.2⟩) (fun _ => rfl)
    (opens_struct Try.underlying182 (by kernel_rfl) (opensL_cons rfl (opens_int Try.underlying3) (by kernel_rfl) (opensL_cons rfl (opens_int Try.underlying3) (by kernel_rfl) (opensL_last rfl (opens_int Try.underlying3) (by kernel_rfl)))))) (fun _ _ => trivial)
theorem opens_house (W : World) : Opens Try.prog W 40 (Kd.pair (Kd.slice 174 k174) (Kd.pair (Kd.slice 179 k179) (Kd.pair (Kd.slice 176 k176) (Kd.slice 182 k182))))
    (fun x => (x.1.length ≤ maxLen ∧ ∀ y ∈ x.1, y.f2.length ≤ maxLen ∧ ∀ z ∈ y.f2, z.f1.size ≤ maxLen) ∧ x.2.1.length ≤ maxLen ∧ (x.2.2.1.length ≤ maxLen ∧ ∀ y ∈ x.2.2.1, y.f2.length ≤ maxLen ∧ ∀ z ∈ y.f2, z.size ≤ maxLen) ∧ x.2.2.2.length ≤ maxLen) :=
  Opens.imp (opens_struct Try.underlying40 (by kernel_rfl)
    (opensL_cons rfl (opens_slice Try.underlying35 (by kernel_rfl) (opens_session W)) (by kernel_rfl)
    (opensL_cons rfl (opens_slice Try.underlying36 (by kernel_rfl) (opens_listen W)) (by kernel_rfl)
    (opensL_cons rfl (opens_slice Try.underlying37 (by kernel_rfl) (opens_queue W)) (by kernel_rfl)
    (opensL_last rfl (opens_slice Try.underlying38 (by kernel_rfl) (opens_lease W)) (by kernel_rfl)))))) (fun _ h => ⟨h.1, h.2.1.1, h.2.2.1, h.2.2.2.1⟩)
theorem arg_house {W : World} {v : Value} (h : ArgOf Try.prog W 40 v) : ∃ (A0 A1 A2 A3 : Option Addr) (c0 c1 c2 c3 : Nat) (ss : List S174) (li : List S179) (qu : List S176) (le : List S182),
    v = .agg #[.slice A0 ss.length c0, .slice A1 li.length c1, .slice A2 qu.length c2, .slice A3 le.length c3] ∧ (ss.length ≤ c0 ∧ Kd.C k174 W A0 ss.length ss) ∧ (li.length ≤ c1 ∧ Kd.C k179 W A1 li.length li) ∧
    (qu.length ≤ c2 ∧ Kd.C k176 W A2 qu.length qu) ∧ (le.length ≤ c3 ∧ Kd.C k182 W A3 le.length le) ∧
    (ss.length ≤ maxLen ∧ ∀ y ∈ ss, y.f2.length ≤ maxLen ∧ ∀ z ∈ y.f2, z.f1.size ≤ maxLen) ∧ li.length ≤ maxLen ∧ (qu.length ≤ maxLen ∧ ∀ y ∈ qu, y.f2.length ≤ maxLen ∧ ∀ z ∈ y.f2, z.size ≤ maxLen) ∧ le.length ≤ maxLen := by
  obtain ⟨⟨ss, li, qu, le⟩, cs, rfl, hK, hG⟩ := arg_struct Try.underlying40 (opens_house W) h
  obtain ⟨_, _, e0, ⟨A0, c0, rfl, h0, hC0⟩, _, _, rfl, ⟨A1, c1, rfl, h1, hC1⟩, _, _, rfl, ⟨A2, c2, rfl, h2, hC2⟩, ⟨A3, c3, rfl, h3, hC3⟩⟩ := hK
  refine ⟨A0, A1, A2, A3, c0, c1, c2, c3, ss, li, qu, le, ?_, ⟨h0, hC0⟩, ⟨h1, hC1⟩, ⟨h2, hC2⟩, ⟨h3, hC3⟩, hG⟩
  cases cs
  simp_all
end Go.Proofs.Ytlbikcelfheohab
end

/-! ### YtlbikcelfheohabHouseFin -/
section
namespace Go.Proofs.Ytlbikcelfheohab
open Go.RowKit Go.Proofs.YtlbikcelfheohabW.PrintWords PFnExactSameHouse
set_option linter.unusedSimpArgs false
set_option linter.unusedVariables false

theorem laws_toH (ss : List S174) (li : List S179) (qu : List S176) (le : List S182) (sz : List S120) (lz : List S111) (qz : List S127) (ez : List S113) (hs : Hid (ss.map cSession = sz)) (hl : Hid (li.map cListen = lz)) (hq : Hid (qu.map cQueue = qz)) (he : Hid (le.map cLease = ez)) (hsm : HouseSmall ss li qu le) (A0 A1 A2 A3 : Option Addr) (c0 c1 c2 c3 : Nat) (w : World)
    (h0 : ss.length ≤ c0) (hC0 : Kd.C k174 w A0 ss.length ss) (h1 : li.length ≤ c1) (hC1 : Kd.C k179 w A1 li.length li) (h2 : qu.length ≤ c2) (hC2 : Kd.C k176 w A2 qu.length qu) (h3 : le.length ≤ c3) (hC3 : Kd.C k182 w A3 le.length le) :
    Calls Try.prog 16 #[.agg #[.slice A0 ss.length c0, .slice A1 li.length c1, .slice A2 qu.length c2, .slice A3 le.length c3]] w fun e w' => ∃ (B0 : Option Addr) (B1 : Option Addr) (B2 : Option Addr) (B3 : Option Addr) (dB0 : Nat) (dB1 : Nat) (dB2 : Nat) (dB3 : Nat), e = .returned (.agg #[.slice B0 sz.length dB0, .slice B1 lz.length dB1, .slice B2 qz.length dB2, .slice B3 ez.length dB3]) ∧ sz.length ≤ dB0 ∧ Hid (Kd.C k120 w' B0 sz.length sz) ∧ lz.length ≤ dB1 ∧ Hid (Kd.C k111 w' B1 lz.length lz) ∧ qz.length ≤ dB2 ∧ Hid (Kd.C k127 w' B2 qz.length qz) ∧ ez.length ≤ dB3 ∧ Hid (Kd.C k113 w' B3 ez.length ez) ∧ Below w.heap.size w w' := by
  obtain rfl := hs.out
  obtain rfl := hl.out
  obtain rfl := hq.out
  obtain rfl := he.out
  obtain ⟨b1, b2, b3, b4, b5, b6⟩ := hsm
  refine (PFnExactSameHouse.laws_toHouse.calls 4194304 A0 c0 ss A1 c1 li A2 c2 qu A3 c3 le _ _ _ _ w hC0 h0 hC1 h1 hC2 h2 hC3 h3 (toHouse_f ss li qu le b1 b2 b3 b4 (fun x hx => (b5 x hx).1) (fun x hx => (b6 x hx).1))).mono ?_
  rintro e w' ⟨v0, v1, v2, v3, rfl, r0, r1, r2, r3, hb⟩
  obtain ⟨B0, d0, rfl, g0, D0⟩ := Kd.S_reads r0
  obtain ⟨B1, d1, rfl, g1, D1⟩ := Kd.R_reads r1
  obtain ⟨B2, d2, rfl, g2, D2⟩ := Kd.S_reads r2
  obtain ⟨B3, d3, rfl, g3, D3⟩ := Kd.R_reads r3
  exact ⟨B0, B1, B2, B3, d0, d1, d2, d3, rfl, g0, Lib.hid D0, g1, Lib.hid D1, g2, Lib.hid D2, g3, Lib.hid D3, hb⟩

/-- The copy's sizes. -/
def ImplSmall (sz : List S120) (lz : List S111) (qz : List S127) (ez : List S113) : Prop := sz.length ≤ 1048576 ∧ lz.length ≤ 1048576 ∧ qz.length ≤ 1048576 ∧ ez.length ≤ 1048576 ∧ (∀ x ∈ sz, x.f2.length ≤ 1048576) ∧ (∀ x ∈ qz, x.f2.length ≤ 1048576)
theorem implSmall_of (ss : List S174) (li : List S179) (qu : List S176) (le : List S182) (h : HouseSmall ss li qu le) : ImplSmall (ss.map cSession) (li.map cListen) (qu.map cQueue) (le.map cLease) := by
  obtain ⟨b1, b2, b3, b4, b5, b6⟩ := h
  refine ⟨by simpa using b1, by simpa using b2, by simpa using b3, by simpa using b4, fun x hx => ?_, fun x hx => ?_⟩
  · obtain ⟨y, hy, rfl⟩ := List.mem_map.1 hx
    simpa [cSession] using (b5 y hy).1
  · obtain ⟨y, hy, rfl⟩ := List.mem_map.1 hx
    simpa [cQueue] using (b6 y hy).1
theorem laws_eqHC (sz : List S120) (lz : List S111) (qz : List S127) (ez : List S113) (hs : Hid (ImplSmall sz lz qz ez)) (B0 B1 B2 B3 : Option Addr) (d0 d1 d2 d3 : Nat) (E0 E1 E2 E3 : Option Addr) (e0 e1 e2 e3 : Nat) (w : World) (h0 : sz.length ≤ d0) (hC0 : Kd.C k120 w B0 sz.length sz) (h1 : lz.length ≤ d1) (hC1 : Kd.C k111 w B1 lz.length lz) (h2 : qz.length ≤ d2) (hC2 : Kd.C k127 w B2 qz.length qz) (h3 : ez.length ≤ d3) (hC3 : Kd.C k113 w B3 ez.length ez) (g0 : sz.length ≤ e0) (gC0 : Kd.C k120 w E0 sz.length sz) (g1 : lz.length ≤ e1) (gC1 : Kd.C k111 w E1 lz.length lz) (g2 : qz.length ≤ e2) (gC2 : Kd.C k127 w E2 qz.length qz) (g3 : ez.length ≤ e3) (gC3 : Kd.C k113 w E3 ez.length ez) :
    Calls Try.prog 18 #[.agg #[.slice B0 sz.length d0, .slice B1 lz.length d1, .slice B2 qz.length d2, .slice B3 ez.length d3], .agg #[.slice E0 sz.length e0, .slice E1 lz.length e1, .slice E2 qz.length e2, .slice E3 ez.length e3]] w fun e w' => e = .returned (.bool true) ∧ Below w.heap.size w w' := by
  obtain ⟨b1, b2, b3, b4, b5, b6⟩ := hs.out
  exact PFnExactSameHouse.laws_eqHouse.calls 4194304 B0 d0 sz B1 d1 lz B2 d2 qz B3 d3 ez E0 e0 sz E1 e1 lz E2 e2 qz E3 e3 ez _ w hC0 h0 hC1 h1 hC2 h2 hC3 h3 gC0 g0 gC1 g1 gC2 g2 gC3 g3 (eqHouse_f sz lz qz ez b1 b2 b3 b4 b5 b6)
/-- A house that was copied. -/
def HouseR (sz : List S120) (lz : List S111) (qz : List S127) (ez : List S113) : VPred := fun w v => ∃ (B0 : Option Addr) (B1 : Option Addr) (B2 : Option Addr) (B3 : Option Addr) (d0 : Nat) (d1 : Nat) (d2 : Nat) (d3 : Nat), v = .agg #[.slice B0 sz.length d0, .slice B1 lz.length d1, .slice B2 qz.length d2, .slice B3 ez.length d3] ∧ sz.length ≤ d0 ∧ lz.length ≤ d1 ∧ qz.length ≤ d2 ∧ ez.length ≤ d3 ∧ Kd.C k120 w B0 sz.length sz ∧ Kd.C k111 w B1 lz.length lz ∧ Kd.C k127 w B2 qz.length qz ∧ Kd.C k113 w B3 ez.length ez
theorem vmono_houseR (sz : List S120) (lz : List S111) (qz : List S127) (ez : List S113) : VMono (HouseR sz lz qz ez) := by
  rintro w w' v ⟨B0, B1, B2, B3, d0, d1, d2, d3, hv, h0, h1, h2, h3, k0, k1, k2, k3⟩ hb
  exact ⟨B0, B1, B2, B3, d0, d1, d2, d3, hv, h0, h1, h2, h3, Kd.C_below k0 hb, Kd.C_below k1 hb, Kd.C_below k2 hb, Kd.C_below k3 hb⟩

end Go.Proofs.Ytlbikcelfheohab
end

/-! ### YtlbikcelfheohabSame -/
section
namespace Go.Proofs.Ytlbikcelfheohab
open Go.RowKit Go.Proofs.YtlbikcelfheohabW.PrintWords PFnExactSameHouse
set_option linter.unusedSimpArgs false
set_option linter.unusedVariables false

/-- From one place on, so many of them. -/
def allFrom (p : Nat → Bool) : Nat → Nat → Bool
  | _, 0 => true
  | i, n + 1 => !p i && allFrom p (i + 1) n
/-- Lists of one length, none of whose places differ. -/
def sameBy {α : Type} (d : Nat → Bool) (xs ys : List α) : Bool := xs.length == ys.length && allFrom d 0 xs.length
theorem sameBy_ne {α : Type} {d : Nat → Bool} {xs ys : List α} (h : (xs.length == ys.length) = false) : sameBy d xs ys = false := by unfold sameBy; rw [h]; rfl
theorem sameBy_eq {α : Type} {d : Nat → Bool} {xs ys : List α} (h : (xs.length == ys.length) = true) : sameBy d xs ys = allFrom d 0 xs.length := by unfold sameBy; rw [h]; rfl
theorem lens {m n : Nat} (b : Bool) (h : (m == n) = b) : (((m : Int) == (n : Int)) = b) ∧ (((m : Int) != (n : Int)) = !b) := by
  cases b with
  | true => have := beq_iff_eq.1 h; subst this; simp
  | false => have : m ≠ n := by simpa using h
             constructor
             · simp; omega
             · simp; omega

def diffTold (xs ys : List S123) (i : Nat) : Bool := !((rd_T123 xs (i : Int)).f0 == (rd_T123 ys (i : Int)).f0) || (!((rd_T123 xs (i : Int)).f1.toList == (rd_T123 ys (i : Int)).f1.toList))
def diffString (xs ys : List ByteArray) (i : Nat) : Bool := !((rdOf ByteArray.empty xs (i : Int)).toList == (rdOf ByteArray.empty ys (i : Int)).toList)
def diffListen (xs ys : List S111) (i : Nat) : Bool := !((rd_T111 xs (i : Int)).f0 == (rd_T111 ys (i : Int)).f0) || (!((rd_T111 xs (i : Int)).f1 == (rd_T111 ys (i : Int)).f1))
def diffLease (xs ys : List S113) (i : Nat) : Bool := !((rd_T113 xs (i : Int)).f0 == (rd_T113 ys (i : Int)).f0) || (!((rd_T113 xs (i : Int)).f1 == (rd_T113 ys (i : Int)).f1) || (!((rd_T113 xs (i : Int)).f2 == (rd_T113 ys (i : Int)).f2)))
theorem eqSTold (d : Nat) (w : World) (x0 y0 : Int) (x1 y1 : ByteArray) :
    (Op.equalIn (d + 2) 123 (.agg #[.int .i64 x0, .string x1]) (.agg #[.int .i64 y0, .string y1])).run Try.prog w = .ok (x0 == y0 && (x1.toList == y1.toList)) w := by
  refine eqA_of Try.underlying123 (by kernel_rfl) ?_
  refine eqf_cons (by rfl) (by go_simp; rfl) (by go_simp; rfl) (by go_simp) ?_
  exact eqf_last (by rfl) (by go_simp; rfl) (by go_simp; rfl) (by go_simp)
theorem eqSListen (d : Nat) (w : World) (x0 y0 : Int) (x1 y1 : Int) :
    (Op.equalIn (d + 2) 111 (.agg #[.int .i64 x0, .int .i64 x1]) (.agg #[.int .i64 y0, .int .i64 y1])).run Try.prog w = .ok (x0 == y0 && (x1 == y1)) w := by
  refine eqA_of Try.underlying111 (by kernel_rfl) ?_
  refine eqf_cons (by rfl) (by go_simp; rfl) (by go_simp; rfl) (by go_simp) ?_
  exact eqf_last (by rfl) (by go_simp; rfl) (by go_simp; rfl) (by go_simp)
theorem eqSLease (d : Nat) (w : World) (x0 y0 : Int) (x1 y1 : Int) (x2 y2 : Int) :
    (Op.equalIn (d + 2) 113 (.agg #[.int .i64 x0, .int .i64 x1, .int .i64 x2]) (.agg #[.int .i64 y0, .int .i64 y1, .int .i64 y2])).run Try.prog w = .ok (x0 == y0 && (x1 == y1 && (x2 == y2))) w := by
  refine eqA_of Try.underlying113 (by kernel_rfl) ?_
  refine eqf_cons (by rfl) (by go_simp; rfl) (by go_simp; rfl) (by go_simp) ?_
  refine eqf_cons (by rfl) (by go_simp; rfl) (by go_simp; rfl) (by go_simp) ?_
  exact eqf_last (by rfl) (by go_simp; rfl) (by go_simp; rfl) (by go_simp)
section
attribute [local go_sem high] eqSTold
set_option maxHeartbeats 1000000 in
set_option maxRecDepth 100000 in
theorem equal_Told (A : Option Addr) (c : Nat) (xs : List S123) (B : Option Addr) (d : Nat) (ys : List S123) (w : World) (hr0 : Kd.C k123 w A xs.length xs) (hc0 : xs.length ≤ c) (hr1 : Kd.C k123 w B ys.length ys) (hc1 : ys.length ≤ d) (hl0 : xs.length ≤ 1048576) (hl1 : ys.length ≤ 1048576) :
    Calls Try.prog 78 #[.slice A xs.length c, .slice B ys.length d] w fun e w' => e = .returned (.bool (sameBy (diffTold xs ys) xs ys)) ∧ Below w.heap.size w w' := by
  have HR0 := Lib.hid hr0
  have HR1 := Lib.hid hr1
  clear hr0 hr1
  cases hn : xs.length == ys.length with
  | false =>
    rw [sameBy_ne hn]
    obtain ⟨n1, n2⟩ := lens false hn
    go_enter Try.func78, Try.ntmps78
    go_wp2
    go_ret
    exact ⟨rfl, (by repeat (first | exact Below.refl _ _ | apply bl_alloc | apply bl_drewN | apply bl_drew | refine bl_set ?_ (by simp) | refine bl_then ?_ (by assumption)))⟩
  | true =>
    rw [sameBy_eq hn]
    obtain ⟨n1, n2⟩ := lens true hn
    have hlen := beq_iff_eq.1 hn
    obtain ⟨r, hr⟩ : ∃ r, Hid (allFrom (diffTold xs ys) 0 xs.length = r) := ⟨_, Lib.hid rfl⟩
    rw [hr.out]
    have Hlen := Lib.hid hlen
    clear hlen
    go_enter Try.func78, Try.ntmps78
    go_wp2
    clear n1 n2 hn
    go_loopg [13] xs.length (fun kq v13 w' => ∃ i : Nat, v13 = .int .i64 (i : Int) ∧ i + kq = xs.length ∧ Hid (allFrom (diffTold xs ys) i kq = r) ∧ Below w.heap.size w w')
    case atStart => exact ⟨0, rfl, by omega, hr, (by repeat (first | exact Below.refl _ _ | apply bl_alloc | apply bl_drewN | apply bl_drew | refine bl_set ?_ (by simp) | refine bl_then ?_ (by assumption)))⟩
    case round =>
      obtain ⟨i, rfl, hik, hix, hb⟩ := hrel
      clear hr
      cases gk with
      | zero =>
        have hlt : ¬ ((i : Int) < (xs.length : Int)) := by omega
        have hrv := hix.out
        simp only [allFrom] at hrv
        subst hrv
        clear hix
        go_wp2
        go_ret
        exact ⟨rfl, (by repeat (first | exact Below.refl _ _ | apply bl_alloc | apply bl_drewN | apply bl_drew | refine bl_set ?_ (by simp) | refine bl_then ?_ (by assumption)))⟩
      | succ n =>
        have hlt : (i : Int) < (xs.length : Int) := by omega
        have hlt2 : (i : Int) < (ys.length : Int) := by have := Hlen.out; omega
        obtain ⟨ad, e1, x0, x1⟩ := at_T123 (Kd.C_below HR0.out hb) i (by omega) hlt
        obtain ⟨bd, e2, y0, y1⟩ := at_T123 (Kd.C_below HR1.out hb) i (by omega) hlt2
        subst e1
        subst e2
        simp only [Int.toNat_natCast] at x0 y0 x1 y1
        have E1 := Lib.hid (show wrap64 ((i : Int) + 1) = ((i + 1 : Nat) : Int) from by unfold wrap64; omega)
        have hrv := hix.out
        simp only [allFrom] at hrv
        cases hp : diffTold xs ys i with
        | true =>
          rw [hp] at hrv
          simp only [Bool.not_true, Bool.false_and] at hrv
          subst hrv
          have hp' : (!((rd_T123 xs (i : Int)).f0 == (rd_T123 ys (i : Int)).f0) || (!((rd_T123 xs (i : Int)).f1.toList == (rd_T123 ys (i : Int)).f1.toList))) = true := hp
          clear hix hp
          go_wp2
          repeat (go_quiet (fail); try go_wp2)
          go_ret
          exact ⟨rfl, (by repeat (first | exact Below.refl _ _ | apply bl_alloc | apply bl_drewN | apply bl_drew | refine bl_set ?_ (by simp) | refine bl_then ?_ (by assumption)))⟩
        | false =>
          rw [hp] at hrv
          simp only [Bool.not_false, Bool.true_and] at hrv
          have hp' : (!((rd_T123 xs (i : Int)).f0 == (rd_T123 ys (i : Int)).f0) || (!((rd_T123 xs (i : Int)).f1.toList == (rd_T123 ys (i : Int)).f1.toList))) = false := hp
          have hix2 := Lib.hid hrv
          clear hix hp hrv
          go_wp2
          repeat (go_quiet (fail); try go_wp2)
          go_roundg n
          case measure => omega
          case rel => exact ⟨i + 1, by first | rfl | (rw [E1.out]), by omega, hix2, (by repeat (first | exact Below.refl _ _ | apply bl_alloc | apply bl_drewN | apply bl_drew | refine bl_set ?_ (by simp) | refine bl_then ?_ (by assumption)))⟩
end

section
set_option maxHeartbeats 1000000 in
set_option maxRecDepth 100000 in
theorem equal_String (A : Option Addr) (c : Nat) (xs : List ByteArray) (B : Option Addr) (d : Nat) (ys : List ByteArray) (w : World) (hr0 : Kd.C Kd.string w A xs.length xs) (hc0 : xs.length ≤ c) (hr1 : Kd.C Kd.string w B ys.length ys) (hc1 : ys.length ≤ d) (hl0 : xs.length ≤ 1048576) (hl1 : ys.length ≤ 1048576) :
    Calls Try.prog 80 #[.slice A xs.length c, .slice B ys.length d] w fun e w' => e = .returned (.bool (sameBy (diffString xs ys) xs ys)) ∧ Below w.heap.size w w' := by
  have HR0 := Lib.hid hr0
  have HR1 := Lib.hid hr1
  clear hr0 hr1
  cases hn : xs.length == ys.length with
  | false =>
    rw [sameBy_ne hn]
    obtain ⟨n1, n2⟩ := lens false hn
    go_enter Try.func80, Try.ntmps80
    go_wp2
    go_ret
    exact ⟨rfl, (by repeat (first | exact Below.refl _ _ | apply bl_alloc | apply bl_drewN | apply bl_drew | refine bl_set ?_ (by simp) | refine bl_then ?_ (by assumption)))⟩
  | true =>
    rw [sameBy_eq hn]
    obtain ⟨n1, n2⟩ := lens true hn
    have hlen := beq_iff_eq.1 hn
    obtain ⟨r, hr⟩ : ∃ r, Hid (allFrom (diffString xs ys) 0 xs.length = r) := ⟨_, Lib.hid rfl⟩
    rw [hr.out]
    have Hlen := Lib.hid hlen
    clear hlen
    go_enter Try.func80, Try.ntmps80
    go_wp2
    clear n1 n2 hn
    go_loopg [13] xs.length (fun kq v13 w' => ∃ i : Nat, v13 = .int .i64 (i : Int) ∧ i + kq = xs.length ∧ Hid (allFrom (diffString xs ys) i kq = r) ∧ Below w.heap.size w w')
    case atStart => exact ⟨0, rfl, by omega, hr, (by repeat (first | exact Below.refl _ _ | apply bl_alloc | apply bl_drewN | apply bl_drew | refine bl_set ?_ (by simp) | refine bl_then ?_ (by assumption)))⟩
    case round =>
      obtain ⟨i, rfl, hik, hix, hb⟩ := hrel
      clear hr
      cases gk with
      | zero =>
        have hlt : ¬ ((i : Int) < (xs.length : Int)) := by omega
        have hrv := hix.out
        simp only [allFrom] at hrv
        subst hrv
        clear hix
        go_wp2
        go_ret
        exact ⟨rfl, (by repeat (first | exact Below.refl _ _ | apply bl_alloc | apply bl_drewN | apply bl_drew | refine bl_set ?_ (by simp) | refine bl_then ?_ (by assumption)))⟩
      | succ n =>
        have hlt : (i : Int) < (xs.length : Int) := by omega
        have hlt2 : (i : Int) < (ys.length : Int) := by have := Hlen.out; omega
        obtain ⟨ad, e1, x0⟩ := Kd.at_string (Kd.C_below HR0.out hb) i (by omega) hlt
        obtain ⟨bd, e2, y0⟩ := Kd.at_string (Kd.C_below HR1.out hb) i (by omega) hlt2
        subst e1
        subst e2
        simp only [Int.toNat_natCast] at x0 y0
        have E1 := Lib.hid (show wrap64 ((i : Int) + 1) = ((i + 1 : Nat) : Int) from by unfold wrap64; omega)
        have hrv := hix.out
        simp only [allFrom] at hrv
        cases hp : diffString xs ys i with
        | true =>
          rw [hp] at hrv
          simp only [Bool.not_true, Bool.false_and] at hrv
          subst hrv
          have hp' : (!((rdOf ByteArray.empty xs (i : Int)).toList == (rdOf ByteArray.empty ys (i : Int)).toList)) = true := hp
          clear hix hp
          go_wp2
          repeat (go_quiet (fail); try go_wp2)
          go_ret
          exact ⟨rfl, (by repeat (first | exact Below.refl _ _ | apply bl_alloc | apply bl_drewN | apply bl_drew | refine bl_set ?_ (by simp) | refine bl_then ?_ (by assumption)))⟩
        | false =>
          rw [hp] at hrv
          simp only [Bool.not_false, Bool.true_and] at hrv
          have hp' : (!((rdOf ByteArray.empty xs (i : Int)).toList == (rdOf ByteArray.empty ys (i : Int)).toList)) = false := hp
          have hix2 := Lib.hid hrv
          clear hix hp hrv
          go_wp2
          repeat (go_quiet (fail); try go_wp2)
          go_roundg n
          case measure => omega
          case rel => exact ⟨i + 1, by first | rfl | (rw [E1.out]), by omega, hix2, (by repeat (first | exact Below.refl _ _ | apply bl_alloc | apply bl_drewN | apply bl_drew | refine bl_set ?_ (by simp) | refine bl_then ?_ (by assumption)))⟩
end

section
attribute [local go_sem high] eqSListen
set_option maxHeartbeats 1000000 in
set_option maxRecDepth 100000 in
theorem equal_Listen (A : Option Addr) (c : Nat) (xs : List S111) (B : Option Addr) (d : Nat) (ys : List S111) (w : World) (hr0 : Kd.C k111 w A xs.length xs) (hc0 : xs.length ≤ c) (hr1 : Kd.C k111 w B ys.length ys) (hc1 : ys.length ≤ d) (hl0 : xs.length ≤ 1048576) (hl1 : ys.length ≤ 1048576) :
    Calls Try.prog 82 #[.slice A xs.length c, .slice B ys.length d] w fun e w' => e = .returned (.bool (sameBy (diffListen xs ys) xs ys)) ∧ Below w.heap.size w w' := by
  have HR0 := Lib.hid hr0
  have HR1 := Lib.hid hr1
  clear hr0 hr1
  cases hn : xs.length == ys.length with
  | false =>
    rw [sameBy_ne hn]
    obtain ⟨n1, n2⟩ := lens false hn
    go_enter Try.func82, Try.ntmps82
    go_wp2
    go_ret
    exact ⟨rfl, (by repeat (first | exact Below.refl _ _ | apply bl_alloc | apply bl_drewN | apply bl_drew | refine bl_set ?_ (by simp) | refine bl_then ?_ (by assumption)))⟩
  | true =>
    rw [sameBy_eq hn]
    obtain ⟨n1, n2⟩ := lens true hn
    have hlen := beq_iff_eq.1 hn
    obtain ⟨r, hr⟩ : ∃ r, Hid (allFrom (diffListen xs ys) 0 xs.length = r) := ⟨_, Lib.hid rfl⟩
    rw [hr.out]
    have Hlen := Lib.hid hlen
    clear hlen
    go_enter Try.func82, Try.ntmps82
    go_wp2
    clear n1 n2 hn
    go_loopg [13] xs.length (fun kq v13 w' => ∃ i : Nat, v13 = .int .i64 (i : Int) ∧ i + kq = xs.length ∧ Hid (allFrom (diffListen xs ys) i kq = r) ∧ Below w.heap.size w w')
    case atStart => exact ⟨0, rfl, by omega, hr, (by repeat (first | exact Below.refl _ _ | apply bl_alloc | apply bl_drewN | apply bl_drew | refine bl_set ?_ (by simp) | refine bl_then ?_ (by assumption)))⟩
    case round =>
      obtain ⟨i, rfl, hik, hix, hb⟩ := hrel
      clear hr
      cases gk with
      | zero =>
        have hlt : ¬ ((i : Int) < (xs.length : Int)) := by omega
        have hrv := hix.out
        simp only [allFrom] at hrv
        subst hrv
        clear hix
        go_wp2
        go_ret
        exact ⟨rfl, (by repeat (first | exact Below.refl _ _ | apply bl_alloc | apply bl_drewN | apply bl_drew | refine bl_set ?_ (by simp) | refine bl_then ?_ (by assumption)))⟩
      | succ n =>
        have hlt : (i : Int) < (xs.length : Int) := by omega
        have hlt2 : (i : Int) < (ys.length : Int) := by have := Hlen.out; omega
        obtain ⟨ad, e1, x0, x1⟩ := at_T111 (Kd.C_below HR0.out hb) i (by omega) hlt
        obtain ⟨bd, e2, y0, y1⟩ := at_T111 (Kd.C_below HR1.out hb) i (by omega) hlt2
        subst e1
        subst e2
        simp only [Int.toNat_natCast] at x0 y0 x1 y1
        have E1 := Lib.hid (show wrap64 ((i : Int) + 1) = ((i + 1 : Nat) : Int) from by unfold wrap64; omega)
        have hrv := hix.out
        simp only [allFrom] at hrv
        cases hp : diffListen xs ys i with
        | true =>
          rw [hp] at hrv
          simp only [Bool.not_true, Bool.false_and] at hrv
          subst hrv
          have hp' : (!((rd_T111 xs (i : Int)).f0 == (rd_T111 ys (i : Int)).f0) || (!((rd_T111 xs (i : Int)).f1 == (rd_T111 ys (i : Int)).f1))) = true := hp
          clear hix hp
          go_wp2
          repeat (go_quiet (fail); try go_wp2)
          go_ret
          exact ⟨rfl, (by repeat (first | exact Below.refl _ _ | apply bl_alloc | apply bl_drewN | apply bl_drew | refine bl_set ?_ (by simp) | refine bl_then ?_ (by assumption)))⟩
        | false =>
          rw [hp] at hrv
          simp only [Bool.not_false, Bool.true_and] at hrv
          have hp' : (!((rd_T111 xs (i : Int)).f0 == (rd_T111 ys (i : Int)).f0) || (!((rd_T111 xs (i : Int)).f1 == (rd_T111 ys (i : Int)).f1))) = false := hp
          have hix2 := Lib.hid hrv
          clear hix hp hrv
          go_wp2
          repeat (go_quiet (fail); try go_wp2)
          go_roundg n
          case measure => omega
          case rel => exact ⟨i + 1, by first | rfl | (rw [E1.out]), by omega, hix2, (by repeat (first | exact Below.refl _ _ | apply bl_alloc | apply bl_drewN | apply bl_drew | refine bl_set ?_ (by simp) | refine bl_then ?_ (by assumption)))⟩
end

section
attribute [local go_sem high] eqSLease
set_option maxHeartbeats 1000000 in
set_option maxRecDepth 100000 in
theorem equal_Lease (A : Option Addr) (c : Nat) (xs : List S113) (B : Option Addr) (d : Nat) (ys : List S113) (w : World) (hr0 : Kd.C k113 w A xs.length xs) (hc0 : xs.length ≤ c) (hr1 : Kd.C k113 w B ys.length ys) (hc1 : ys.length ≤ d) (hl0 : xs.length ≤ 1048576) (hl1 : ys.length ≤ 1048576) :
    Calls Try.prog 84 #[.slice A xs.length c, .slice B ys.length d] w fun e w' => e = .returned (.bool (sameBy (diffLease xs ys) xs ys)) ∧ Below w.heap.size w w' := by
  have HR0 := Lib.hid hr0
  have HR1 := Lib.hid hr1
  clear hr0 hr1
  cases hn : xs.length == ys.length with
  | false =>
    rw [sameBy_ne hn]
    obtain ⟨n1, n2⟩ := lens false hn
    go_enter Try.func84, Try.ntmps84
    go_wp2
    go_ret
    exact ⟨rfl, (by repeat (first | exact Below.refl _ _ | apply bl_alloc | apply bl_drewN | apply bl_drew | refine bl_set ?_ (by simp) | refine bl_then ?_ (by assumption)))⟩
  | true =>
    rw [sameBy_eq hn]
    obtain ⟨n1, n2⟩ := lens true hn
    have hlen := beq_iff_eq.1 hn
    obtain ⟨r, hr⟩ : ∃ r, Hid (allFrom (diffLease xs ys) 0 xs.length = r) := ⟨_, Lib.hid rfl⟩
    rw [hr.out]
    have Hlen := Lib.hid hlen
    clear hlen
    go_enter Try.func84, Try.ntmps84
    go_wp2
    clear n1 n2 hn
    go_loopg [13] xs.length (fun kq v13 w' => ∃ i : Nat, v13 = .int .i64 (i : Int) ∧ i + kq = xs.length ∧ Hid (allFrom (diffLease xs ys) i kq = r) ∧ Below w.heap.size w w')
    case atStart => exact ⟨0, rfl, by omega, hr, (by repeat (first | exact Below.refl _ _ | apply bl_alloc | apply bl_drewN | apply bl_drew | refine bl_set ?_ (by simp) | refine bl_then ?_ (by assumption)))⟩
    case round =>
      obtain ⟨i, rfl, hik, hix, hb⟩ := hrel
      clear hr
      cases gk with
      | zero =>
        have hlt : ¬ ((i : Int) < (xs.length : Int)) := by omega
        have hrv := hix.out
        simp only [allFrom] at hrv
        subst hrv
        clear hix
        go_wp2
        go_ret
        exact ⟨rfl, (by repeat (first | exact Below.refl _ _ | apply bl_alloc | apply bl_drewN | apply bl_drew | refine bl_set ?_ (by simp) | refine bl_then ?_ (by assumption)))⟩
      | succ n =>
        have hlt : (i : Int) < (xs.length : Int) := by omega
        have hlt2 : (i : Int) < (ys.length : Int) := by have := Hlen.out; omega
        obtain ⟨ad, e1, x0, x1, x2⟩ := at_T113 (Kd.C_below HR0.out hb) i (by omega) hlt
        obtain ⟨bd, e2, y0, y1, y2⟩ := at_T113 (Kd.C_below HR1.out hb) i (by omega) hlt2
        subst e1
        subst e2
        simp only [Int.toNat_natCast] at x0 y0 x1 y1 x2 y2
        have E1 := Lib.hid (show wrap64 ((i : Int) + 1) = ((i + 1 : Nat) : Int) from by unfold wrap64; omega)
        have hrv := hix.out
        simp only [allFrom] at hrv
        cases hp : diffLease xs ys i with
        | true =>
          rw [hp] at hrv
          simp only [Bool.not_true, Bool.false_and] at hrv
          subst hrv
          have hp' : (!((rd_T113 xs (i : Int)).f0 == (rd_T113 ys (i : Int)).f0) || (!((rd_T113 xs (i : Int)).f1 == (rd_T113 ys (i : Int)).f1) || (!((rd_T113 xs (i : Int)).f2 == (rd_T113 ys (i : Int)).f2)))) = true := hp
          clear hix hp
          go_wp2
          repeat (go_quiet (fail); try go_wp2)
          go_ret
          exact ⟨rfl, (by repeat (first | exact Below.refl _ _ | apply bl_alloc | apply bl_drewN | apply bl_drew | refine bl_set ?_ (by simp) | refine bl_then ?_ (by assumption)))⟩
        | false =>
          rw [hp] at hrv
          simp only [Bool.not_false, Bool.true_and] at hrv
          have hp' : (!((rd_T113 xs (i : Int)).f0 == (rd_T113 ys (i : Int)).f0) || (!((rd_T113 xs (i : Int)).f1 == (rd_T113 ys (i : Int)).f1) || (!((rd_T113 xs (i : Int)).f2 == (rd_T113 ys (i : Int)).f2)))) = false := hp
          have hix2 := Lib.hid hrv
          clear hix hp hrv
          go_wp2
          repeat (go_quiet (fail); try go_wp2)
          go_roundg n
          case measure => omega
          case rel => exact ⟨i + 1, by first | rfl | (rw [E1.out]), by omega, hix2, (by repeat (first | exact Below.refl _ _ | apply bl_alloc | apply bl_drewN | apply bl_drew | refine bl_set ?_ (by simp) | refine bl_then ?_ (by assumption)))⟩
end

def diffSession (xs ys : List S120) (i : Nat) : Bool := !((rd_T120 xs (i : Int)).f0 == (rd_T120 ys (i : Int)).f0) || (!((rd_T120 xs (i : Int)).f1 == (rd_T120 ys (i : Int)).f1) || !(sameBy (diffTold (rd_T120 xs (i : Int)).f2 (rd_T120 ys (i : Int)).f2) (rd_T120 xs (i : Int)).f2 (rd_T120 ys (i : Int)).f2))
def diffQueue (xs ys : List S127) (i : Nat) : Bool := !((rd_T127 xs (i : Int)).f0 == (rd_T127 ys (i : Int)).f0) || (!((rd_T127 xs (i : Int)).f1 == (rd_T127 ys (i : Int)).f1) || !(sameBy (diffString (rd_T127 xs (i : Int)).f2 (rd_T127 ys (i : Int)).f2) (rd_T127 xs (i : Int)).f2 (rd_T127 ys (i : Int)).f2))

set_option maxHeartbeats 1000000 in
set_option maxRecDepth 100000 in
theorem clos_Session (a0 a1 b0 b1 : Int) (A : Option Addr) (c : Nat) (xs : List S123) (B : Option Addr) (d : Nat) (ys : List S123) (w : World) (hr0 : Kd.C k123 w A xs.length xs) (hc0 : xs.length ≤ c) (hr1 : Kd.C k123 w B ys.length ys) (hc1 : ys.length ≤ d) (hl0 : xs.length ≤ 1048576) (hl1 : ys.length ≤ 1048576) (r : Bool) (hr : Hid ((!(a0 == b0) || (!(a1 == b1) || !(sameBy (diffTold xs ys) xs ys))) = r)) :
    Calls Try.prog 77 #[.agg #[.int .i64 a0, .int .i64 a1, .slice A xs.length c], .agg #[.int .i64 b0, .int .i64 b1, .slice B ys.length d]] w fun e w' => e = .returned (.bool (!r)) ∧ Below w.heap.size w w' := by
  have HR0 := Lib.hid hr0
  have HR1 := Lib.hid hr1
  clear hr0 hr1
  have hrv := hr.out
  clear hr
  cases h0 : a0 == b0 with
  | false =>
    rw [h0] at hrv
    simp only [Bool.not_false, Bool.true_or] at hrv
    subst hrv
    go_enter Try.func77, Try.ntmps77
    go_wp2
    go_ret
    exact ⟨rfl, (by repeat (first | exact Below.refl _ _ | apply bl_alloc | apply bl_drewN | apply bl_drew | refine bl_set ?_ (by simp) | refine bl_then ?_ (by assumption)))⟩
  | true =>
    cases h1 : a1 == b1 with
    | false =>
      rw [h0, h1] at hrv
      simp only [Bool.not_false, Bool.not_true, Bool.true_or, Bool.false_or] at hrv
      subst hrv
      go_enter Try.func77, Try.ntmps77
      go_wp2
      go_ret
      exact ⟨rfl, (by repeat (first | exact Below.refl _ _ | apply bl_alloc | apply bl_drewN | apply bl_drew | refine bl_set ?_ (by simp) | refine bl_then ?_ (by assumption)))⟩
    | true =>
      rw [h0, h1] at hrv
      simp only [Bool.not_true, Bool.false_or] at hrv
      obtain ⟨q, hq⟩ : ∃ q, sameBy (diffTold xs ys) xs ys = q := ⟨_, rfl⟩
      have hE := fun w2 h2 h3 => equal_Told A c xs B d ys w2 h2 hc0 h3 hc1 hl0 hl1
      rw [hq] at hE hrv
      subst hrv
      have HE := Lib.hid hE
      clear hE hq
      go_enter Try.func77, Try.ntmps77
      go_wp2_with (first | (go_at_call 78; refine (HE.out _ (Kd.C_below HR0.out (by repeat (first | exact Below.refl _ _ | apply bl_alloc | apply bl_drewN | apply bl_drew | refine bl_set ?_ (by simp) | refine bl_then ?_ (by assumption)))) (Kd.C_below HR1.out (by repeat (first | exact Below.refl _ _ | apply bl_alloc | apply bl_drewN | apply bl_drew | refine bl_set ?_ (by simp) | refine bl_then ?_ (by assumption))))).mono ?_; rintro e w' ⟨rfl, hb⟩))
      go_ret
      exact ⟨by simp, (by repeat (first | exact Below.refl _ _ | apply bl_alloc | apply bl_drewN | apply bl_drew | refine bl_set ?_ (by simp) | refine bl_then ?_ (by assumption)))⟩
set_option maxHeartbeats 1000000 in
set_option maxRecDepth 100000 in
theorem equalF_Session (A : Option Addr) (c : Nat) (xs : List S120) (B : Option Addr) (d : Nat) (ys : List S120) (w : World) (hr0 : Kd.C k120 w A xs.length xs) (hc0 : xs.length ≤ c) (hr1 : Kd.C k120 w B ys.length ys) (hc1 : ys.length ≤ d) (hl0 : xs.length ≤ 1048576) (hl1 : ys.length ≤ 1048576) (hs0 : ∀ j : Nat, (rd_T120 xs (j : Int)).f2.length ≤ 1048576) (hs1 : ∀ j : Nat, (rd_T120 ys (j : Int)).f2.length ≤ 1048576) :
    Calls Try.prog 81 #[.slice A xs.length c, .slice B ys.length d, .func (.func 77) #[] #[]] w fun e w' => e = .returned (.bool (sameBy (diffSession xs ys) xs ys)) ∧ Below w.heap.size w w' := by
  have HR0 := Lib.hid hr0
  have HR1 := Lib.hid hr1
  clear hr0 hr1
  cases hn : xs.length == ys.length with
  | false =>
    rw [sameBy_ne hn]
    obtain ⟨n1, n2⟩ := lens false hn
    go_enter Try.func81, Try.ntmps81
    go_wp2
    go_ret
    exact ⟨rfl, (by repeat (first | exact Below.refl _ _ | apply bl_alloc | apply bl_drewN | apply bl_drew | refine bl_set ?_ (by simp) | refine bl_then ?_ (by assumption)))⟩
  | true =>
    rw [sameBy_eq hn]
    obtain ⟨n1, n2⟩ := lens true hn
    have hlen := beq_iff_eq.1 hn
    obtain ⟨r, hr⟩ : ∃ r, Hid (allFrom (diffSession xs ys) 0 xs.length = r) := ⟨_, Lib.hid rfl⟩
    rw [hr.out]
    have Hlen := Lib.hid hlen
    have HS0 := Lib.hid hs0
    have HS1 := Lib.hid hs1
    clear hlen hs0 hs1
    go_enter Try.func81, Try.ntmps81
    go_wp2
    clear n1 n2 hn
    go_loopg [17] xs.length (fun kq v17 w' => ∃ i : Nat, v17 = .int .i64 (i : Int) ∧ i + kq = xs.length ∧ Hid (allFrom (diffSession xs ys) i kq = r) ∧ Below w.heap.size w w')
    case atStart => exact ⟨0, rfl, by omega, hr, (by repeat (first | exact Below.refl _ _ | apply bl_alloc | apply bl_drewN | apply bl_drew | refine bl_set ?_ (by simp) | refine bl_then ?_ (by assumption)))⟩
    case round =>
      obtain ⟨i, rfl, hik, hix, hb⟩ := hrel
      clear hr
      cases gk with
      | zero =>
        have hlt : ¬ ((i : Int) < (xs.length : Int)) := by omega
        have hrv := hix.out
        simp only [allFrom] at hrv
        subst hrv
        clear hix
        go_wp2
        go_ret
        exact ⟨rfl, (by repeat (first | exact Below.refl _ _ | apply bl_alloc | apply bl_drewN | apply bl_drew | refine bl_set ?_ (by simp) | refine bl_then ?_ (by assumption)))⟩
      | succ n =>
        have hlt : (i : Int) < (xs.length : Int) := by omega
        have hlt2 : (i : Int) < (ys.length : Int) := by have := Hlen.out; omega
        obtain ⟨ad, A2, c2, e1, x0, x1, x2, hx2, C2⟩ := at_T120 (Kd.C_below HR0.out hb) i (by omega) hlt
        obtain ⟨bd, B2, d2, e2, y0, y1, y2, hy2, D2⟩ := at_T120 (Kd.C_below HR1.out hb) i (by omega) hlt2
        subst e1
        subst e2
        simp only [Int.toNat_natCast] at x0 x1 x2 y0 y1 y2
        have lx : (ad.add (i * 3)).block < wr.heap.size := World.block_lt_of_cell? wr _ x0
        have ly : (bd.add (i * 3)).block < wr.heap.size := World.block_lt_of_cell? wr _ y0
        have HC2 := Lib.hid C2
        have HD2 := Lib.hid D2
        clear C2 D2
        have E1 := Lib.hid (show wrap64 ((i : Int) + 1) = ((i + 1 : Nat) : Int) from by unfold wrap64; omega)
        have hrv := hix.out
        simp only [allFrom] at hrv
        obtain ⟨dv, hd⟩ : ∃ dv, diffSession xs ys i = dv := ⟨_, rfl⟩
        rw [hd] at hrv
        have HD := Lib.hid hd
        clear hd hix
        cases dv with
        | true =>
          simp only [Bool.not_true, Bool.false_and] at hrv
          subst hrv
          go_wp2_with (first | (go_at_call 77; refine (clos_Session _ _ _ _ _ _ _ _ _ _ _ (Kd.C_below HC2.out (by repeat (first | exact Below.refl _ _ | apply bl_alloc | apply bl_drewN | apply bl_drew | refine bl_set ?_ (by simp) | refine bl_then ?_ (by assumption)))) hx2 (Kd.C_below HD2.out (by repeat (first | exact Below.refl _ _ | apply bl_alloc | apply bl_drewN | apply bl_drew | refine bl_set ?_ (by simp) | refine bl_then ?_ (by assumption)))) hy2 (HS0.out i) (HS1.out i) true HD).mono ?_; rintro e w' ⟨rfl, hb1⟩))
          go_ret
          exact ⟨rfl, (by repeat (first | exact Below.refl _ _ | apply bl_alloc | apply bl_drewN | apply bl_drew | refine bl_set ?_ (by simp) | refine bl_then ?_ (by assumption)))⟩
        | false =>
          simp only [Bool.not_false, Bool.true_and] at hrv
          have hix2 := Lib.hid hrv
          clear hrv
          go_wp2_with (first | (go_at_call 77; refine (clos_Session _ _ _ _ _ _ _ _ _ _ _ (Kd.C_below HC2.out (by repeat (first | exact Below.refl _ _ | apply bl_alloc | apply bl_drewN | apply bl_drew | refine bl_set ?_ (by simp) | refine bl_then ?_ (by assumption)))) hx2 (Kd.C_below HD2.out (by repeat (first | exact Below.refl _ _ | apply bl_alloc | apply bl_drewN | apply bl_drew | refine bl_set ?_ (by simp) | refine bl_then ?_ (by assumption)))) hy2 (HS0.out i) (HS1.out i) false HD).mono ?_; rintro e w' ⟨rfl, hb1⟩))
          go_roundg n
          case measure => omega
          case rel => exact ⟨i + 1, by first | rfl | (rw [E1.out]), by omega, hix2, (by repeat (first | exact Below.refl _ _ | apply bl_alloc | apply bl_drewN | apply bl_drew | refine bl_set ?_ (by simp) | refine bl_then ?_ (by assumption)))⟩

set_option maxHeartbeats 1000000 in
set_option maxRecDepth 100000 in
theorem clos_Queue (a0 a1 b0 b1 : Int) (A : Option Addr) (c : Nat) (xs : List ByteArray) (B : Option Addr) (d : Nat) (ys : List ByteArray) (w : World) (hr0 : Kd.C Kd.string w A xs.length xs) (hc0 : xs.length ≤ c) (hr1 : Kd.C Kd.string w B ys.length ys) (hc1 : ys.length ≤ d) (hl0 : xs.length ≤ 1048576) (hl1 : ys.length ≤ 1048576) (r : Bool) (hr : Hid ((!(a0 == b0) || (!(a1 == b1) || !(sameBy (diffString xs ys) xs ys))) = r)) :
    Calls Try.prog 79 #[.agg #[.int .i64 a0, .int .i64 a1, .slice A xs.length c], .agg #[.int .i64 b0, .int .i64 b1, .slice B ys.length d]] w fun e w' => e = .returned (.bool (!r)) ∧ Below w.heap.size w w' := by
  have HR0 := Lib.hid hr0
  have HR1 := Lib.hid hr1
  clear hr0 hr1
  have hrv := hr.out
  clear hr
  cases h0 : a0 == b0 with
  | false =>
    rw [h0] at hrv
    simp only [Bool.not_false, Bool.true_or] at hrv
    subst hrv
    go_enter Try.func79, Try.ntmps79
    go_wp2
    go_ret
    exact ⟨rfl, (by repeat (first | exact Below.refl _ _ | apply bl_alloc | apply bl_drewN | apply bl_drew | refine bl_set ?_ (by simp) | refine bl_then ?_ (by assumption)))⟩
  | true =>
    cases h1 : a1 == b1 with
    | false =>
      rw [h0, h1] at hrv
      simp only [Bool.not_false, Bool.not_true, Bool.true_or, Bool.false_or] at hrv
      subst hrv
      go_enter Try.func79, Try.ntmps79
      go_wp2
      go_ret
      exact ⟨rfl, (by repeat (first | exact Below.refl _ _ | apply bl_alloc | apply bl_drewN | apply bl_drew | refine bl_set ?_ (by simp) | refine bl_then ?_ (by assumption)))⟩
    | true =>
      rw [h0, h1] at hrv
      simp only [Bool.not_true, Bool.false_or] at hrv
      obtain ⟨q, hq⟩ : ∃ q, sameBy (diffString xs ys) xs ys = q := ⟨_, rfl⟩
      have hE := fun w2 h2 h3 => equal_String A c xs B d ys w2 h2 hc0 h3 hc1 hl0 hl1
      rw [hq] at hE hrv
      subst hrv
      have HE := Lib.hid hE
      clear hE hq
      go_enter Try.func79, Try.ntmps79
      go_wp2_with (first | (go_at_call 80; refine (HE.out _ (Kd.C_below HR0.out (by repeat (first | exact Below.refl _ _ | apply bl_alloc | apply bl_drewN | apply bl_drew | refine bl_set ?_ (by simp) | refine bl_then ?_ (by assumption)))) (Kd.C_below HR1.out (by repeat (first | exact Below.refl _ _ | apply bl_alloc | apply bl_drewN | apply bl_drew | refine bl_set ?_ (by simp) | refine bl_then ?_ (by assumption))))).mono ?_; rintro e w' ⟨rfl, hb⟩))
      go_ret
      exact ⟨by simp, (by repeat (first | exact Below.refl _ _ | apply bl_alloc | apply bl_drewN | apply bl_drew | refine bl_set ?_ (by simp) | refine bl_then ?_ (by assumption)))⟩
set_option maxHeartbeats 1000000 in
set_option maxRecDepth 100000 in
theorem equalF_Queue (A : Option Addr) (c : Nat) (xs : List S127) (B : Option Addr) (d : Nat) (ys : List S127) (w : World) (hr0 : Kd.C k127 w A xs.length xs) (hc0 : xs.length ≤ c) (hr1 : Kd.C k127 w B ys.length ys) (hc1 : ys.length ≤ d) (hl0 : xs.length ≤ 1048576) (hl1 : ys.length ≤ 1048576) (hs0 : ∀ j : Nat, (rd_T127 xs (j : Int)).f2.length ≤ 1048576) (hs1 : ∀ j : Nat, (rd_T127 ys (j : Int)).f2.length ≤ 1048576) :
    Calls Try.prog 83 #[.slice A xs.length c, .slice B ys.length d, .func (.func 79) #[] #[]] w fun e w' => e = .returned (.bool (sameBy (diffQueue xs ys) xs ys)) ∧ Below w.heap.size w w' := by
  have HR0 := Lib.hid hr0
  have HR1 := Lib.hid hr1
  clear hr0 hr1
  cases hn : xs.length == ys.length with
  | false =>
    rw [sameBy_ne hn]
    obtain ⟨n1, n2⟩ := lens false hn
    go_enter Try.func83, Try.ntmps83
    go_wp2
    go_ret
    exact ⟨rfl, (by repeat (first | exact Below.refl _ _ | apply bl_alloc | apply bl_drewN | apply bl_drew | refine bl_set ?_ (by simp) | refine bl_then ?_ (by assumption)))⟩
  | true =>
    rw [sameBy_eq hn]
    obtain ⟨n1, n2⟩ := lens true hn
    have hlen := beq_iff_eq.1 hn
    obtain ⟨r, hr⟩ : ∃ r, Hid (allFrom (diffQueue xs ys) 0 xs.length = r) := ⟨_, Lib.hid rfl⟩
    rw [hr.out]
    have Hlen := Lib.hid hlen
    have HS0 := Lib.hid hs0
    have HS1 := Lib.hid hs1
    clear hlen hs0 hs1
    go_enter Try.func83, Try.ntmps83
    go_wp2
    clear n1 n2 hn
    go_loopg [17] xs.length (fun kq v17 w' => ∃ i : Nat, v17 = .int .i64 (i : Int) ∧ i + kq = xs.length ∧ Hid (allFrom (diffQueue xs ys) i kq = r) ∧ Below w.heap.size w w')
    case atStart => exact ⟨0, rfl, by omega, hr, (by repeat (first | exact Below.refl _ _ | apply bl_alloc | apply bl_drewN | apply bl_drew | refine bl_set ?_ (by simp) | refine bl_then ?_ (by assumption)))⟩
    case round =>
      obtain ⟨i, rfl, hik, hix, hb⟩ := hrel
      clear hr
      cases gk with
      | zero =>
        have hlt : ¬ ((i : Int) < (xs.length : Int)) := by omega
        have hrv := hix.out
        simp only [allFrom] at hrv
        subst hrv
        clear hix
        go_wp2
        go_ret
        exact ⟨rfl, (by repeat (first | exact Below.refl _ _ | apply bl_alloc | apply bl_drewN | apply bl_drew | refine bl_set ?_ (by simp) | refine bl_then ?_ (by assumption)))⟩
      | succ n =>
        have hlt : (i : Int) < (xs.length : Int) := by omega
        have hlt2 : (i : Int) < (ys.length : Int) := by have := Hlen.out; omega
        obtain ⟨ad, A2, c2, e1, x0, x1, x2, hx2, C2⟩ := at_T127 (Kd.C_below HR0.out hb) i (by omega) hlt
        obtain ⟨bd, B2, d2, e2, y0, y1, y2, hy2, D2⟩ := at_T127 (Kd.C_below HR1.out hb) i (by omega) hlt2
        subst e1
        subst e2
        simp only [Int.toNat_natCast] at x0 x1 x2 y0 y1 y2
        have lx : (ad.add (i * 3)).block < wr.heap.size := World.block_lt_of_cell? wr _ x0
        have ly : (bd.add (i * 3)).block < wr.heap.size := World.block_lt_of_cell? wr _ y0
        have HC2 := Lib.hid C2
        have HD2 := Lib.hid D2
        clear C2 D2
        have E1 := Lib.hid (show wrap64 ((i : Int) + 1) = ((i + 1 : Nat) : Int) from by unfold wrap64; omega)
        have hrv := hix.out
        simp only [allFrom] at hrv
        obtain ⟨dv, hd⟩ : ∃ dv, diffQueue xs ys i = dv := ⟨_, rfl⟩
        rw [hd] at hrv
        have HD := Lib.hid hd
        clear hd hix
        cases dv with
        | true =>
          simp only [Bool.not_true, Bool.false_and] at hrv
          subst hrv
          go_wp2_with (first | (go_at_call 79; refine (clos_Queue _ _ _ _ _ _ _ _ _ _ _ (Kd.C_below HC2.out (by repeat (first | exact Below.refl _ _ | apply bl_alloc | apply bl_drewN | apply bl_drew | refine bl_set ?_ (by simp) | refine bl_then ?_ (by assumption)))) hx2 (Kd.C_below HD2.out (by repeat (first | exact Below.refl _ _ | apply bl_alloc | apply bl_drewN | apply bl_drew | refine bl_set ?_ (by simp) | refine bl_then ?_ (by assumption)))) hy2 (HS0.out i) (HS1.out i) true HD).mono ?_; rintro e w' ⟨rfl, hb1⟩))
          go_ret
          exact ⟨rfl, (by repeat (first | exact Below.refl _ _ | apply bl_alloc | apply bl_drewN | apply bl_drew | refine bl_set ?_ (by simp) | refine bl_then ?_ (by assumption)))⟩
        | false =>
          simp only [Bool.not_false, Bool.true_and] at hrv
          have hix2 := Lib.hid hrv
          clear hrv
          go_wp2_with (first | (go_at_call 79; refine (clos_Queue _ _ _ _ _ _ _ _ _ _ _ (Kd.C_below HC2.out (by repeat (first | exact Below.refl _ _ | apply bl_alloc | apply bl_drewN | apply bl_drew | refine bl_set ?_ (by simp) | refine bl_then ?_ (by assumption)))) hx2 (Kd.C_below HD2.out (by repeat (first | exact Below.refl _ _ | apply bl_alloc | apply bl_drewN | apply bl_drew | refine bl_set ?_ (by simp) | refine bl_then ?_ (by assumption)))) hy2 (HS0.out i) (HS1.out i) false HD).mono ?_; rintro e w' ⟨rfl, hb1⟩))
          go_roundg n
          case measure => omega
          case rel => exact ⟨i + 1, by first | rfl | (rw [E1.out]), by omega, hix2, (by repeat (first | exact Below.refl _ _ | apply bl_alloc | apply bl_drewN | apply bl_drew | refine bl_set ?_ (by simp) | refine bl_then ?_ (by assumption)))⟩

end Go.Proofs.Ytlbikcelfheohab
end

/-! ### YtlbikcelfheohabBlk0 -/
section
namespace Go.Proofs.Ytlbikcelfheohab
open Go.RowKit
set_option linter.unusedSimpArgs false
set_option linter.unusedVariables false

/-- Only one block may have turned. -/
structure Upd (g : Nat) (w w' : World) : Prop where
  os : w'.os = w.os
  tape : w'.tape = w.tape
  output : w'.output = w.output
  size : w.heap.size ≤ w'.heap.size
  block : ∀ k, k < w.heap.size → k ≠ g → w'.heap[k]? = w.heap[k]?
theorem Upd.of_below {g : Nat} {w w' : World} (h : Below w.heap.size w w') : Upd g w w' := ⟨h.os, h.tape, h.output, h.size, fun k hk _ => h.block k hk⟩
theorem Upd.refl (g : Nat) (w : World) : Upd g w w := ⟨rfl, rfl, rfl, Nat.le_refl _, fun _ _ _ => rfl⟩
theorem Upd.trans {g : Nat} {a b c : World} (h : Upd g a b) (k : Upd g b c) : Upd g a c :=
  ⟨k.os.trans h.os, k.tape.trans h.tape, k.output.trans h.output, Nat.le_trans h.size k.size, fun i hi hg => (k.block i (Nat.lt_of_lt_of_le hi h.size) hg).trans (h.block i hi hg)⟩
theorem Upd.set {g : Nat} {w w' : World} (h : Upd g w w') (o : Nat) (v : Value) : Upd g w (w'.setCell ⟨g, o, none⟩ v) :=
  ⟨h.os, h.tape, h.output, by simpa using h.size, fun k hk hg => (Below.heap_setCell w' ⟨g, o, none⟩ v k hg).trans (h.block k hk hg)⟩
theorem Upd.alloc {g : Nat} {w w' : World} (h : Upd g w w') (o : Obj) : Upd g w (w'.alloc o) :=
  h.trans (Upd.of_below (bl_alloc (Below.refl _ _) o))
theorem Upd.drewN {g : Nat} {w w' : World} (h : Upd g w w') (n : Nat) : Upd g w (w'.drewN n) := h.trans (Upd.of_below (bl_drewN (Below.refl _ _) n))
theorem Upd.then {g : Nat} {w w' w2 : World} (h : Upd g w w') (k : Below w'.heap.size w' w2) : Upd g w w2 := h.trans (Upd.of_below k)
theorem Upd.below {g : Nat} {w w' w0 : World} (h : Upd g w w') (hb : Below w0.heap.size w0 w) (hg : w0.heap.size ≤ g) : Below w0.heap.size w0 w' :=
  hb.trans ⟨h.os, h.tape, h.output, h.size, fun k hk => h.block k (Nat.lt_of_lt_of_le hk hb.size) (by omega)⟩
theorem ucell {g : Nat} {W w1 : World} (h : Upd g W w1) : (∀ b o, b < W.heap.size → b ≠ g → w1.cell? ⟨b, o, none⟩ = W.cell? ⟨b, o, none⟩) ∧ (∀ b o, b < W.heap.size → b ≠ g → w1.frozen? ⟨b, o, none⟩ = W.frozen? ⟨b, o, none⟩) :=
  ⟨fun b o hb hg => World.cell?_of_block (w := W) (h.block b hb hg), fun b o hb hg => World.frozen?_of_block (w := W) (h.block b hb hg)⟩

/-! A block whose cells are known, carried from world to world. (own) -/
def Blk (T g : Nat) (cs : Array Value) (W : World) : Prop := W.heap[g]? = some (.cells cs T (0, 0))
section
variable {T g : Nat} {cs : Array Value} {W W1 : World}
theorem Blk.lt (h : Blk T g cs W) : g < W.heap.size := by
  unfold Blk at h
  rcases Nat.lt_or_ge g W.heap.size with h1 | h1
  · exact h1
  · rw [Array.getElem?_eq_none h1] at h; cases h
theorem Blk.cell (h : Blk T g cs W) (o : Nat) {v : Value} (hv : cs[o]? = some v) : W.cell? ⟨g, o, none⟩ = some v := by
  unfold Blk at h
  simp [World.cell?, h, hv]
theorem Blk.free (h : Blk T g cs W) (o : Nat) : W.frozen? ⟨g, o, none⟩ = false := by
  unfold Blk at h
  simp [World.frozen?, h]
theorem Blk.below (h : Blk T g cs W) (hb : Below W.heap.size W W1) : Blk T g cs W1 := (hb.block g h.lt).trans h
theorem Blk.upd {g' : Nat} (h : Blk T g cs W) (hu : Upd g' W W1) (hg : g ≠ g') : Blk T g cs W1 := (hu.block g h.lt hg).trans h
theorem Blk.alloc (h : Blk T g cs W) (o : Obj) : Blk T g cs (W.alloc o) := (Below.heap_alloc W o g h.lt).trans h
theorem Blk.far (h : Blk T g cs W) {a : Addr} (hg : g ≠ a.block) (v : Value) : Blk T g cs (W.setCell a v) := (Below.heap_setCell W a v g hg).trans h
theorem Blk.drewN (h : Blk T g cs W) (n : Nat) : Blk T g cs (W.drewN n) := h
theorem Blk.new (T : Nat) (cs : Array Value) (W : World) : Blk T W.heap.size cs (W.alloc (.cells cs T)) := by
  unfold Blk
  simpa using heap_alloc_new W _
theorem Blk.newE {g : Nat} (T : Nat) (cs : Array Value) (W : World) (h : g = W.heap.size) : Blk T g cs (W.alloc (.cells cs T)) := by
  subst h; exact Blk.new T cs W
theorem Blk.set (h : Blk T g cs W) (o : Nat) (v : Value) {cs' : Array Value} (hc : cs.setIfInBounds o v = cs') : Blk T g cs' (W.setCell ⟨g, o, none⟩ v) := by
  unfold Blk at *
  subst hc
  simp [World.setCell, Array.getElem?_modify, h, Array.setIfInBounds]
end
end Go.Proofs.Ytlbikcelfheohab
end
