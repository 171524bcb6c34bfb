/- A region that draws its order, walked once: of some of its values only what holds of them is known (an address that an append lays). -/
import Derived.Deep.QuietTactic
namespace Go.Proofs.Ytnmnknjgibkkaaa

/-- What is known of a slot: its value, or what holds of it in each world that comes. -/
inductive Slot where
  | val (c : Value)
  | pred (V : Value → World → Prop)
def Slot.fits : Slot → Value → World → Prop
  | .val c, v, _ => v = c
  | .pred V, v, w => V v w
def Slot.get (s : Slot) (v : Value) : Value := match s with
  | .val c => c
  | .pred _ => v
theorem Slot.get_of_fits {s : Slot} {v : Value} {w : World} (h : s.fits v w) : s.get v = v := by
  cases s with
  | val c => exact (show v = c from h).symm
  | pred V => rfl

def slVals : List Slot → Nat → (Nat → Value) → List Value
  | [], _, _ => []
  | s :: S, t, γ => s.get (γ t) :: slVals S (t + 1) γ
theorem slVals_get (S : List Slot) (k t : Nat) (γ : Nat → Value) : (slVals S k γ)[t]? = S[t]?.map fun s => s.get (γ (k + t)) := by
  induction S generalizing k t with
  | nil => simp [slVals]
  | cons s S ih =>
    cases t with
    | zero => simp [slVals]
    | succ t => simp [slVals, ih, Nat.add_assoc, Nat.add_comm 1 t]
theorem slVals_length (S : List Slot) (k : Nat) (γ : Nat → Value) : (slVals S k γ).length = S.length := by
  induction S generalizing k with
  | nil => rfl
  | cons s S ih => simp [slVals, ih]
def slAct (S : List Slot) (γ : Nat → Value) (d : List Deferred) : Act := ⟨(slVals S 0 γ).toArray, d⟩

/-- Whom an operation waits for, through whatever many steps: bit j of the i-th number. -/
def ancs (ops : Array Oper) : List Nat := ops.toList.foldl (fun acc o => acc ++ [o.after.toList.foldl (fun m e => if Region.binds .any e then m ||| (1 <<< e.on) ||| acc.getD e.on 0 else m) 0]) []
def anc (ms : List Nat) (i j : Nat) : Bool := (ms.getD i 0).testBit j
/-- Every one of 'bigs' is this operation or waits for it. -/
def aliveM (ms bigs : List Nat) (i : Nat) : Bool := bigs.all fun b => b == i || anc ms b i

section
variable (P : Program) (ops : Array Oper) (C D : World → Prop) (R R' : World → World → Prop) (bigs preds : List Nat)

/-- An operation, carried out, leaves a value and a world of which 'post' holds. -/
def yld (o : Oper) (ρ : Operand → Value) (w : World) (post : Value → World → Prop) : Prop :=
  match (execOp ρ o).run P w with
  | .ok (.value v) w' => post v w'
  | .ok .skip w' => post undef w'
  | .ok (.enter f args) w' => Calls P f args w' fun e w'' => ∃ v, e = .returned v ∧ post v w''
  | .ok (.row row args) w' => Rows P row args w' post
  | _ => False

theorem wp_of_yld {o : Oper} {a : Act} {w : World} {post : Value → World → Prop} {K : Act → World → Prop} {Q : Exit → Act → World → Prop} (h : yld P o a.eval w post) (hk : ∀ v w', post v w' → K (a.put o.dst v) w') : o.wp P a w K Q := by
  unfold yld at h
  unfold Oper.wp
  generalize (execOp a.eval o).run P w = r at h ⊢
  cases r with
  | halt x w' => exact h.elim
  | ok nx w' =>
    cases nx <;> simp only [Oper.upon] at h ⊢
    case value v => exact hk _ _ h
    case skip => exact hk _ _ h
    case enter f args =>
      refine h.mono fun e w'' ⟨v, he, hp⟩ => ?_
      subst he
      exact hk _ _ hp
    case row row args => exact Rows.mono h fun v w'' hp => hk _ _ hp

/-- How the world may change at an operation. -/
def eff (i : Nat) : World → World → Prop := if bigs.contains i then R' else R
/-- What is asked of one operation. -/
def Ob (al : Bool) (i : Nat) (o : Oper) (S : List Slot) (d : List Deferred) (s : Slot) : Prop :=
  ∀ (γ : Nat → Value) (w : World), C w → (al = true → D w) → (∀ t V, t ∈ o.looksAt ops → S[t]? = some (.pred V) → V (γ t) w) →
    if Region.wanted o (yielded ops (slAct S γ d).tmps) = true then yld P o (slAct S γ d).eval w (fun v w' => C w' ∧ eff R R' bigs i w w' ∧ s.fits v w') else s.fits undef w
/-- A slot's knowledge stays, or is that of one of 'preds'. -/
def Keeps (i : Nat) (s : Slot) : Prop := (∃ c, s = .val c) ∨ (i ∈ preds ∧ ∀ v w w', C w → C w' → R w w' → s.fits v w → s.fits v w')

def setD (S : List Slot) (dst : Option Tmp) (s : Slot) : List Slot := match dst with
  | some t => S.set t s
  | none => S

/-- The walk, in the text's order. -/
def GW (d : List Deferred) (Fin : List Slot → Prop) : Nat → List Oper → List Slot → Prop
  | _, [], S => Fin S
  | i, o :: rest, S => ∃ s : Slot, Keeps C R preds i s ∧ Ob P ops C D R R' bigs (aliveM (ancs ops) bigs i) i o S d s ∧ GW d Fin (i + 1) rest (setD S o.dst s)

def fillS : List Slot → List Oper → List Slot → Nat → List Slot
  | S, _, _, 0 => S
  | S, o :: l, s :: ss, i + 1 => fillS (setD S o.dst s) l ss i
  | S, _, _, _ + 1 => S

theorem setD_length (S : List Slot) (dst : Option Tmp) (s : Slot) : (setD S dst s).length = S.length := by
  cases dst <;> simp [setD]
theorem fillS_length (l : List Oper) : ∀ (S : List Slot) (ss : List Slot) (i : Nat), (fillS S l ss i).length = S.length := by
  induction l with
  | nil => intro S ss i; cases i <;> simp [fillS]
  | cons o l ih =>
    intro S ss i
    cases i with
    | zero => simp [fillS]
    | succ i =>
      cases ss with
      | nil => simp [fillS]
      | cons s ss => simp only [fillS, ih, setD_length]
/-- A slot that no operation ahead has written. -/
theorem fillS_old (l : List Oper) : ∀ (S : List Slot) (ss : List Slot) (i t : Nat), (∀ j o, j < i → l[j]? = some o → o.dst ≠ some t) → (fillS S l ss i)[t]? = S[t]? := by
  induction l with
  | nil => intro S ss i t _; cases i <;> simp [fillS]
  | cons o l ih =>
    intro S ss i t h
    cases i with
    | zero => simp [fillS]
    | succ i =>
      cases ss with
      | nil => simp [fillS]
      | cons s ss =>
        simp only [fillS]
        rw [ih _ ss i t (fun j o' hj ho => h (j + 1) o' (by omega) (by simpa using ho))]
        have h0 := h 0 o (by omega) (by simp)
        unfold setD
        cases hd : o.dst with
        | none => rfl
        | some d =>
          have hne : d ≠ t := fun e => h0 (by rw [hd, e])
          simp [hne]
/-- A slot that one operation ahead has written. -/
theorem fillS_new (l : List Oper) : ∀ (S : List Slot) (ss : List Slot) (i t j : Nat) (o : Oper) (s : Slot), ss.length = l.length → t < S.length → j < i → l[j]? = some o → o.dst = some t → ss[j]? = some s →
    (∀ j' o', l[j']? = some o' → o'.dst = some t → j' = j) → (fillS S l ss i)[t]? = some s := by
  induction l with
  | nil => intro S ss i t j o s _ _ _ ho; simp at ho
  | cons o0 l ih =>
    intro S ss i t j o s hl ht hj ho hd hs hu
    cases i with
    | zero => omega
    | succ i =>
      cases ss with
      | nil => simp at hs
      | cons s0 ss =>
        simp only [fillS]
        cases j with
        | zero =>
          simp only [List.getElem?_cons_zero, Option.some.injEq] at ho hs
          subst ho; subst hs
          rw [fillS_old l _ ss i t (fun j' o' _ ho' hd' => by have := hu (j' + 1) o' (by simpa using ho') hd'; omega)]
          simp [setD, hd, ht]
        | succ j =>
          simp only [List.getElem?_cons_succ] at ho hs
          exact ih _ ss i t j o s (by simpa using hl) (by rw [setD_length]; exact ht) (by omega) ho hd hs (fun j' o' ho' hd' => by have := hu (j' + 1) o' (by simpa using ho') hd'; omega)

theorem GW.extract {d : List Deferred} {Fin : List Slot → Prop} : ∀ (l : List Oper) (k : Nat) (S : List Slot), GW P ops C D R R' bigs preds d Fin k l S →
    ∃ ss : List Slot, ss.length = l.length ∧ (∀ i o s, l[i]? = some o → ss[i]? = some s → Keeps C R preds (k + i) s ∧ Ob P ops C D R R' bigs (aliveM (ancs ops) bigs (k + i)) (k + i) o (fillS S l ss i) d s) ∧ Fin (fillS S l ss l.length)
  | [], k, S, h => ⟨[], rfl, fun i o s ho => by simp at ho, by simpa [fillS, GW] using h⟩
  | o :: l, k, S, h => by
    obtain ⟨s, hst, hob, hr⟩ := h
    obtain ⟨ss, h1, h2, h3⟩ := GW.extract l (k + 1) _ hr
    refine ⟨s :: ss, by simp [h1], fun i o' s' ho hs => ?_, by simpa [fillS] using h3⟩
    cases i with
    | zero =>
      simp only [List.getElem?_cons_zero, Option.some.injEq] at ho hs
      subst ho; subst hs
      exact ⟨hst, by simpa [fillS] using hob⟩
    | succ i =>
      simp only [List.getElem?_cons_succ] at ho hs
      have := h2 i o' s' ho hs
      rw [show k + 1 + i = k + (i + 1) by omega] at this
      simpa [fillS] using this
end

def noSel (o : Oper) : Bool := match o.op with
  | .select .. => false
  | _ => true
/-- What of the region's text is asked: each operation waits for those whose slots it looks at; no slot is written twice. -/
def ghostB (ops : Array Oper) (n : Nat) : Bool :=
  (List.range ops.size).all fun i => match ops[i]? with
    | none => true
    | some o =>
      noSel o && (match o.dst with | some d => decide (d < n) | none => true) && o.after.all (fun e => !Region.binds .any e || decide (e.on < i)) &&
      (List.range ops.size).all fun j => j == i || match ops[j]? with
        | none => true
        | some o' => match o'.dst with
          | none => true
          | some d => o.dst != some d && (!(o.looksAt ops).contains d || (decide (j < i) && o.after.any (fun e => Region.binds .any e && e.on == j)) || (decide (i < j) && o'.after.any (fun e => Region.binds .any e && e.on == i)))

/-- The numbers say no more than the text. -/
def ancB (ops : Array Oper) (ms : List Nat) : Bool :=
  (List.range ops.size).all fun i => (List.range ops.size).all fun j => !anc ms i j || match ops[i]? with
    | none => false
    | some o => o.after.any fun e => Region.binds .any e && (e.on == j || anc ms e.on j)
/-- At each of 'bigs' every predicate that is known is no longer looked at, or is the work of a later operation; those of 'keeps' are all later. -/
def bigB (ops : Array Oper) (ms bigs preds keeps : List Nat) : Bool :=
  bigs.all fun b => decide (b < ops.size) && (preds.all fun j => j == b || anc ms j b || match (ops[j]?).bind (·.dst) with
    | none => true
    | some t => !keeps.contains j && (List.range ops.size).all fun r => r == b || anc ms b r || match ops[r]? with
      | none => true
      | some o => !(o.looksAt ops).contains t)

structure Laid (ops : Array Oper) (n i : Nat) (o : Oper) : Prop where
  sel : ∀ cs b, o.op ≠ .select cs b
  lt : ∀ d, o.dst = some d → d < n
  back : ∀ e ∈ o.after, Region.binds .any e = true → e.on < i
  apart : ∀ j o' d, ops[j]? = some o' → j ≠ i → o'.dst = some d → o.dst ≠ some d ∧ (d ∈ o.looksAt ops → (j < i ∧ ∃ e ∈ o.after, Region.binds .any e = true ∧ e.on = j) ∨ (i < j ∧ ∃ e ∈ o'.after, Region.binds .any e = true ∧ e.on = i))

theorem ghostB_spec {ops : Array Oper} {n : Nat} (h : ghostB ops n = true) {i : Nat} {o : Oper} (hi : ops[i]? = some o) : Laid ops n i o := by
  have hlt : i < ops.size := (Array.getElem?_eq_some_iff.1 hi).1
  unfold ghostB at h
  have h1 := List.all_eq_true.1 h i (List.mem_range.2 hlt)
  simp only [hi, Bool.and_eq_true] at h1
  obtain ⟨⟨⟨ha, hb⟩, hc⟩, hd⟩ := h1
  refine ⟨fun cs b e => ?_, fun d hd' => ?_, fun e he hbi => ?_, fun j o' d hj hne hd' => ?_⟩
  · unfold noSel at ha
    rw [e] at ha
    exact absurd ha (by simp)
  · simpa [hd'] using hb
  · have := Array.all_eq_true_iff_forall_mem.1 hc e he
    simpa [hbi] using this
  · have hjl : j < ops.size := (Array.getElem?_eq_some_iff.1 hj).1
    have h2 := List.all_eq_true.1 hd j (List.mem_range.2 hjl)
    simp only [hj, hd', Bool.or_eq_true, Bool.and_eq_true, beq_iff_eq, hne, false_or, bne_iff_ne, ne_eq, decide_eq_true_eq] at h2
    refine ⟨h2.1, fun hl => ?_⟩
    rcases h2.2 with (h3 | ⟨h3, h4⟩) | ⟨h3, h4⟩
    · simp [hl] at h3
    · obtain ⟨e, he, h5⟩ := Array.any_eq_true'.1 h4
      simp only [Bool.and_eq_true, beq_iff_eq] at h5
      exact .inl ⟨h3, e, he, h5.1, h5.2⟩
    · obtain ⟨e, he, h5⟩ := Array.any_eq_true'.1 h4
      simp only [Bool.and_eq_true, beq_iff_eq] at h5
      exact .inr ⟨h3, e, he, h5.1, h5.2⟩

section
variable (P : Program) (l : List Oper) (C D : World → Prop) (R R' : World → World → Prop) (bigs preds keeps ms : List Nat) (d : List Deferred) (n : Nat) (S0 ss : List Slot)

/-- The j-th operation's slot is still looked at. -/
def Due (listed : Array Bool) (j t : Nat) (s : Slot) : Prop := (∃ c, s = .val c) ∨ keeps.contains j = true ∨ ∃ r o, l[r]? = some o ∧ t ∈ o.looksAt l.toArray ∧ listed.getD r true = false

structure Inv (listed : Array Bool) (a : Act) (w : World) : Prop where
  cls : C w
  alive : (∀ b, bigs.contains b = true → listed.getD b true = false) → D w
  defers : a.defers = d
  size : a.tmps.size = n
  lsize : listed.size = l.length
  closed : ∀ j o, l[j]? = some o → listed.getD j true = true → ∀ e ∈ o.after, Region.binds .any e = true → listed.getD e.on false = true
  new : ∀ j o s t, l[j]? = some o → ss[j]? = some s → o.dst = some t → listed.getD j true = true → Due l keeps listed j t s → s.fits (a.tmps.getD t undef) w
  old : ∀ t, (∀ j o, l[j]? = some o → o.dst = some t → listed.getD j true = false) → ∀ s, S0[t]? = some s → s.fits (a.tmps.getD t undef) w

variable {P l C D R R' bigs preds keeps ms d n S0 ss}
theorem listed_of_false {listed : Array Bool} {j : Nat} (h : listed.getD j false = true) : listed.getD j true = true := by
  rcases Nat.lt_or_ge j listed.size with hj | hj
  · simpa [hj] using h
  · simp [Array.getElem?_eq_none hj] at h
theorem getD_set_self {listed : Array Bool} {j : Nat} {b : Bool} (h : j < listed.size) : (listed.setIfInBounds j true).getD j b = true := by
  simp [h]
theorem getD_set_other {listed : Array Bool} {i j : Nat} {b : Bool} (h : i ≠ j) : (listed.setIfInBounds i true).getD j b = listed.getD j b := by
  simp [Array.getElem?_setIfInBounds_ne h]

/-- What an operation that may come up looks at. -/
theorem Inv.sees {listed : Array Bool} {a : Act} {w : World} (hI : Inv l C D bigs keeps d n S0 ss listed a w) (hB : ghostB l.toArray n = true) (hl : ss.length = l.length) (hS : S0.length = n) {i : Nat} {o : Oper} (hi : l[i]? = some o)
    (hr : i ∈ Region.ready .any l.toArray listed) (t : Tmp) (ht : t ∈ o.looksAt l.toArray) (htn : t < n) : ∃ s, (fillS S0 l ss i)[t]? = some s ∧ s.fits (a.tmps.getD t undef) w := by
  have hL := ghostB_spec hB (i := i) (o := o) (by simpa using hi)
  obtain ⟨hun, o1, ho1, hall⟩ := mem_ready.1 hr
  obtain rfl : o1 = o := by
    have : l[i]? = some o1 := by simpa using ho1
    exact Option.some.inj (this.symm.trans hi)
  by_cases hw : ∃ j o', j < i ∧ l[j]? = some o' ∧ o'.dst = some t
  · obtain ⟨j, o', hji, hj, hd⟩ := hw
    have hjs : j < ss.length := by rw [hl]; exact (List.getElem?_eq_some_iff.1 hj).1
    have hLj := ghostB_spec hB (i := j) (o := o') (by simpa using hj)
    have hu : ∀ j' o'', l[j']? = some o'' → o''.dst = some t → j' = j := by
      intro j' o'' hj' hd'
      by_cases he : j' = j
      · exact he
      · exact absurd hd (hLj.apart j' o'' t (by simpa using hj') he hd').1
    refine ⟨ss[j], fillS_new l S0 ss i t j o' ss[j] hl (by rw [hS]; exact htn) hji hj hd (by simp) hu, ?_⟩
    refine hI.new j o' ss[j] t hj (by simp) hd ?_ (.inr (.inr ⟨i, o1, hi, ht, hun⟩))
    rcases (hL.apart j o' t (by simpa using hj) (by omega) hd).2 ht with ⟨_, e, he, hb, hon⟩ | ⟨h, _⟩
    · have := hall e he hb
      rw [hon] at this
      exact listed_of_false this
    · omega
  · have hno : ∀ j o', j < i → l[j]? = some o' → o'.dst ≠ some t := fun j o' hj ho hd => hw ⟨j, o', hj, ho, hd⟩
    have ht0 : t < S0.length := by rw [hS]; exact htn
    refine ⟨S0[t], by rw [fillS_old l S0 ss i t hno]; simp [ht0], hI.old t (fun j o' hj hd => ?_) _ (by simp [ht0])⟩
    by_cases hji : j = i
    · rw [hji]; exact hun
    · have hlt : i < j := by
        rcases Nat.lt_or_ge j i with h | h
        · exact absurd hd (hno j o' h hj)
        · omega
      rcases (hL.apart j o' t (by simpa using hj) hji hd).2 ht with ⟨h, _⟩ | ⟨_, e, he, hb, hon⟩
      · omega
      · cases hx : listed.getD j true with
        | false => rfl
        | true =>
          have := listed_of_false (hI.closed j o' hj hx e he hb)
          rw [hon, hun] at this
          cases this

theorem slAct_get {S : List Slot} {γ : Nat → Value} {d : List Deferred} {a : Act} {t : Nat} {s : Slot} {w : World} (hs : S[t]? = some s) (hγ : γ t = a.tmps.getD t undef) (hf : s.fits (a.tmps.getD t undef) w) (ht : t < a.tmps.size) : (slAct S γ d).tmps[t]? = a.tmps[t]? := by
  unfold slAct
  rw [List.getElem?_toArray, slVals_get, hs]
  simp only [Option.map_some, Nat.zero_add, hγ, Slot.get_of_fits hf]
  simp [ht]

theorem Inv.same {listed : Array Bool} {a : Act} {w : World} (hI : Inv l C D bigs keeps d n S0 ss listed a w) (hB : ghostB l.toArray n = true) (hl : ss.length = l.length) (hS : S0.length = n) {i : Nat} {o : Oper} (hi : l[i]? = some o)
    (hr : i ∈ Region.ready .any l.toArray listed) (t : Tmp) (ht : t ∈ o.looksAt l.toArray) : (slAct (fillS S0 l ss i) (fun t => a.tmps.getD t undef) d).tmps[t]? = a.tmps[t]? := by
  by_cases htn : t < n
  · obtain ⟨s, h1, h2⟩ := hI.sees hB hl hS hi hr t ht htn
    exact slAct_get h1 rfl h2 (by rw [hI.size]; exact htn)
  · have h1 : a.tmps.size ≤ t := by rw [hI.size]; exact Nat.le_of_not_lt htn
    have h2 : (slAct (fillS S0 l ss i) (fun t => a.tmps.getD t undef) d).tmps.size ≤ t := by
      simp only [slAct, List.size_toArray, slVals_length, fillS_length, hS]
      exact Nat.le_of_not_lt htn
    rw [Array.getElem?_eq_none h1, Array.getElem?_eq_none h2]

theorem exec_same {ops : Array Oper} {o : Oper} {a b : Act} (hs : ∀ cs x, o.op ≠ .select cs x) (h : ∀ t ∈ o.looksAt ops, b.tmps[t]? = a.tmps[t]?) : execOp b.eval o = execOp a.eval o :=
  execOp_congr o hs fun x hx => by
    cases x with
    | tmp t =>
      have := h t (List.mem_append_left _ (List.mem_filterMap.2 ⟨.tmp t, by simpa using hx, rfl⟩))
      simp [Act.eval, this]
    | _ => rfl
theorem wanted_same {ops : Array Oper} {o : Oper} {a b : Act} (h : ∀ t ∈ o.looksAt ops, b.tmps[t]? = a.tmps[t]?) : Region.wanted o (yielded ops b.tmps) = Region.wanted o (yielded ops a.tmps) := by
  unfold Region.wanted
  cases hg : o.guard with
  | none => rfl
  | some gw =>
    obtain ⟨g, want⟩ := gw
    simp only
    congr 1
    unfold yielded
    cases ho : ops[g]? with
    | none => rfl
    | some og =>
      cases hd : og.dst with
      | none => simp [hd]
      | some dd =>
        have := h dd (List.mem_append_right _ (by simp [hg, ho, hd]))
        simp [hd, this]

theorem put_get {a : Act} {dst : Option Tmp} {v : Value} {t : Nat} (h : dst ≠ some t) : (a.put dst v).tmps.getD t undef = a.tmps.getD t undef := by
  cases dst with
  | none => rfl
  | some d =>
    have hne : d ≠ t := fun e => h (by rw [e])
    simp [Act.put, Array.getElem?_setIfInBounds_ne hne]
theorem put_get_self {a : Act} {t : Nat} {v : Value} (h : t < a.tmps.size) : (a.put (some t) v).tmps.getD t undef = v := by
  simp [Act.put, h]

theorem anc_listed {listed : Array Bool} (hA : ancB l.toArray ms = true) (hB : ghostB l.toArray n = true) (hcl : ∀ j o, l[j]? = some o → listed.getD j true = true → ∀ e ∈ o.after, Region.binds .any e = true → listed.getD e.on false = true) :
    ∀ (i : Nat) (o : Oper), l[i]? = some o → (∀ e ∈ o.after, Region.binds .any e = true → listed.getD e.on false = true) → ∀ j, j < l.length → anc ms i j = true → listed.getD j true = true := by
  intro i
  induction i using Nat.strongRecOn with
  | _ i ih =>
    intro o hi hall j hj ha
    have hil : i < l.length := (List.getElem?_eq_some_iff.1 hi).1
    unfold ancB at hA
    have h1 := List.all_eq_true.1 hA i (List.mem_range.2 (by simpa using hil))
    have h2 := List.all_eq_true.1 h1 j (List.mem_range.2 (by simpa using hj))
    have hi' : l.toArray[i]? = some o := by simpa using hi
    simp only [ha, hi', Bool.not_true, Bool.false_or] at h2
    obtain ⟨e, he, h3⟩ := Array.any_eq_true'.1 h2
    simp only [Bool.and_eq_true, Bool.or_eq_true, beq_iff_eq] at h3
    have hle := hall e he h3.1
    rcases h3.2 with h4 | h4
    · rw [← h4]; exact listed_of_false hle
    · have hlt := (ghostB_spec hB (i := i) (o := o) hi').back e he h3.1
      exact ih e.on hlt l[e.on] (by simp [show e.on < l.length by omega]) (hcl e.on _ (by simp [show e.on < l.length by omega]) (listed_of_false hle)) j hj h4

/-- Behind an operation. -/
theorem Inv.step {listed : Array Bool} {a : Act} {w w' : World} {v : Value} {s : Slot} (hI : Inv l C D bigs keeps d n S0 ss listed a w) (hB : ghostB l.toArray n = true) (hS0 : ∀ (t : Nat) (s : Slot), S0[t]? = some s → ∃ c, s = Slot.val c)
    (hst : ∀ (i : Nat) (s : Slot), ss[i]? = some s → Keeps C R preds i s) (hD : ∀ w w', C w → C w' → R w w' → D w → D w') (hA : ancB l.toArray ms = true) (hG : bigB l.toArray ms bigs preds keeps = true) {i : Nat} {o : Oper} (hi : l[i]? = some o) (hs : ss[i]? = some s)
    (hr : i ∈ Region.ready .any l.toArray listed) (hC : C w') (hR : eff R R' bigs i w w') (hv : s.fits v w') : Inv l C D bigs keeps d n S0 ss (listed.setIfInBounds i true) (a.put o.dst v) w' := by
  have hL := ghostB_spec hB (i := i) (o := o) (by simpa using hi)
  obtain ⟨hun, o1, ho1, hall⟩ := mem_ready.1 hr
  obtain rfl : o1 = o := by
    have : l[i]? = some o1 := by simpa using ho1
    exact Option.some.inj (this.symm.trans hi)
  have hil : i < listed.size := by rw [hI.lsize]; exact (List.getElem?_eq_some_iff.1 hi).1
  refine ⟨hC, fun hal => ?_, ?_, ?_, ?_, ?_, ?_, ?_⟩
  · by_cases hbig : bigs.contains i = true
    · have := hal i hbig
      rw [getD_set_self hil] at this
      cases this
    · unfold eff at hR
      rw [if_neg hbig] at hR
      refine hD w w' hI.cls hC hR (hI.alive fun b hb => ?_)
      have h0 := hal b hb
      by_cases hbi : b = i
      · subst hbi; exact hun
      · rwa [getD_set_other (Ne.symm hbi)] at h0
  · rw [← hI.defers]; cases o1.dst <;> rfl
  · rw [← hI.size]; cases o1.dst <;> simp [Act.put]
  · simp [hI.lsize]
  · intro j o' hj hx e he hb
    by_cases hon : e.on = i
    · rw [hon]; exact getD_set_self hil
    · rw [getD_set_other (Ne.symm hon)]
      by_cases hji : j = i
      · subst hji
        obtain rfl : o' = o1 := Option.some.inj (hj.symm.trans hi)
        exact hall e he hb
      · rw [getD_set_other (Ne.symm hji)] at hx
        exact hI.closed j o' hj hx e he hb
  · intro j o' s' t hj hs' hd hx hdue
    by_cases hji : j = i
    · subst hji
      obtain rfl : o' = o1 := Option.some.inj (hj.symm.trans hi)
      obtain rfl : s' = s := Option.some.inj (hs'.symm.trans hs)
      rw [hd, put_get_self (by rw [hI.size]; exact hL.lt t hd)]
      exact hv
    · rw [getD_set_other (Ne.symm hji)] at hx
      rw [put_get (hL.apart j o' t (by simpa using hj) hji hd).1]
      have hdue0 : Due l keeps listed j t s' := by
        rcases hdue with h | h | ⟨r, o2, h1, h2, h3⟩
        · exact .inl h
        · exact .inr (.inl h)
        · refine .inr (.inr ⟨r, o2, h1, h2, ?_⟩)
          by_cases hri : r = i
          · subst hri; exact hun
          · rwa [getD_set_other (Ne.symm hri)] at h3
      have hf := hI.new j o' s' t hj hs' hd hx hdue0
      cases s' with
      | val c => exact hf
      | pred V =>
        rcases hst j _ hs' with ⟨c, hc⟩ | ⟨hpj, hkeep⟩
        · cases hc
        unfold eff at hR
        by_cases hbig : bigs.contains i = true
        · exfalso
          have hjl : j < l.length := (List.getElem?_eq_some_iff.1 hj).1
          have hnotanc : anc ms j i = true → False := fun h => by
            have := anc_listed hA hB hI.closed j o' hj (hI.closed j o' hj hx) i (by rw [← hI.lsize]; exact hil) h
            rw [hun] at this
            cases this
          unfold bigB at hG
          have h1 := List.all_eq_true.1 hG i (by simpa using hbig)
          simp only [Bool.and_eq_true] at h1
          have h2 := List.all_eq_true.1 h1.2 j hpj
          have hjo : l.toArray[j]? = some o' := by simpa using hj
          simp only [hjo, Option.bind_some, hd, Bool.or_eq_true, beq_iff_eq, hji, false_or, Bool.and_eq_true] at h2
          rcases h2 with h2 | ⟨h2, h3⟩
          · exact hnotanc h2
          · rcases hdue with ⟨c, hc⟩ | h | ⟨r, o2, hr1, hr2, hr3⟩
            · cases hc
            · rw [h] at h2; cases h2
            · have hrl : r < l.length := (List.getElem?_eq_some_iff.1 hr1).1
              have h4 := List.all_eq_true.1 h3 r (List.mem_range.2 (by simpa using hrl))
              have hro : l.toArray[r]? = some o2 := by simpa using hr1
              simp only [hro, Bool.or_eq_true, beq_iff_eq] at h4
              rcases h4 with (h4 | h4) | h4
              · subst h4
                rw [getD_set_self hil] at hr3
                cases hr3
              · have := anc_listed hA hB hI.closed i o1 hi hall r hrl h4
                by_cases hri : r = i
                · subst hri; rw [getD_set_self hil] at hr3; cases hr3
                · rw [getD_set_other (Ne.symm hri), this] at hr3; cases hr3
              · simp [hr2] at h4
        · rw [if_neg hbig] at hR
          exact hkeep _ _ _ hI.cls hC hR hf
  · intro t hno s' hs'
    have hdi : o1.dst ≠ some t := fun hd => by
      have := hno i o1 hi hd
      rw [getD_set_self hil] at this
      cases this
    rw [put_get hdi]
    have hold := hI.old t (fun j o' hj hd => by
      have := hno j o' hj hd
      by_cases hji : j = i
      · rw [hji]; exact hun
      · rwa [getD_set_other (Ne.symm hji)] at this) s' hs'
    obtain ⟨c, rfl⟩ := hS0 t s' hs'
    exact hold

theorem all_listed {listed : Array Bool} (hB : ghostB l.toArray n = true) (hsz : listed.size = l.length) (hr : Region.ready .any l.toArray listed = []) : ∀ j, j < l.length → listed.getD j true = true := by
  intro j
  induction j using Nat.strongRecOn with
  | _ j ih =>
    intro hj
    cases hx : listed.getD j true with
    | true => rfl
    | false =>
      have hmem : j ∈ Region.ready .any l.toArray listed := by
        refine mem_ready.2 ⟨hx, l[j], by simp [hj], fun e he hb => ?_⟩
        have hL := ghostB_spec hB (i := j) (o := l[j]) (by simp [hj])
        have hlt := hL.back e he hb
        have := ih e.on hlt (by omega)
        simpa [show e.on < listed.size by omega] using this
      rw [hr] at hmem
      cases hmem

theorem slAct_get2 {S : List Slot} {γ : Nat → Value} {d : List Deferred} {a : Act} {t : Nat} {s : Slot} (hs : S[t]? = some s) (hγ : γ t = a.tmps.getD t undef) (hf : ∀ c, s = .val c → a.tmps.getD t undef = c) (ht : t < a.tmps.size) : (slAct S γ d).tmps[t]? = a.tmps[t]? := by
  unfold slAct
  rw [List.getElem?_toArray, slVals_get, hs]
  have : s.get (γ (0 + t)) = a.tmps.getD t undef := by
    cases s with
    | val c => exact (hf c rfl).symm
    | pred V => simp [Slot.get, hγ]
  simp only [Option.map_some, this]
  simp [ht]

/-- What is known at the region's end. -/
def DoneK (l : List Oper) (C : World → Prop) (keeps : List Nat) (d : List Deferred) (K : Act → World → Prop) (S : List Slot) : Prop :=
  ∀ (γ : Nat → Value) (w : World), C w → (∀ (j t : Nat) (V : Value → World → Prop), keeps.contains j = true → (l[j]?).bind (·.dst) = some t → S[t]? = some (Slot.pred V) → V (γ t) w) → K (slAct S γ d) w
def Done (l : List Oper) (C : World → Prop) (keeps : List Nat) (d : List Deferred) (Q : Exit → Act → World → Prop) (S : List Slot) : Prop := DoneK l C keeps d (Q .normal) S

theorem Inv.endK {listed : Array Bool} {a : Act} {w : World} {K : Act → World → Prop} (hI : Inv l C D bigs keeps d n S0 ss listed a w) (hB : ghostB l.toArray n = true) (hl : ss.length = l.length) (hS : S0.length = n)
    (hfin : DoneK l C keeps d K (fillS S0 l ss l.length))
    (hall : ∀ (j : Nat) (o : Oper) (t : Nat), l[j]? = some o → o.dst = some t → listed.getD j true = true) : K a w := by
  have hone : ∀ (j : Nat) (o' : Oper) (t : Nat), l[j]? = some o' → o'.dst = some t → ∀ j' o'', l[j']? = some o'' → o''.dst = some t → j' = j := by
    intro j o' t hj hd j' o'' hj' hd'
    have hLj := ghostB_spec hB (i := j) (o := o') (by simpa using hj)
    by_cases he : j' = j
    · exact he
    · exact absurd hd (hLj.apart j' o'' t (by simpa using hj') he hd').1
  have hget : ∀ t, t < n → ∃ s, (fillS S0 l ss l.length)[t]? = some s ∧ (∀ c, s = .val c → a.tmps.getD t undef = c) := by
    intro t ht
    by_cases hw : ∃ (j : Nat) (o' : Oper), l[j]? = some o' ∧ o'.dst = some t
    · obtain ⟨j, o', hj, hd⟩ := hw
      have hjl : j < l.length := (List.getElem?_eq_some_iff.1 hj).1
      refine ⟨ss[j], fillS_new l S0 ss l.length t j o' _ hl (by rw [hS]; exact ht) hjl hj hd (by simp) (hone j o' t hj hd), fun c hc => ?_⟩
      have := hI.new j o' _ t hj (by simp [hl, hjl] : ss[j]? = some ss[j]) hd (hall j o' t hj hd) (.inl ⟨c, hc⟩)
      rw [hc] at this
      exact this
    · refine ⟨S0[t], ?_, fun c hc => ?_⟩
      · rw [fillS_old l S0 ss l.length t (fun j o' _ hj hd => hw ⟨j, o', hj, hd⟩)]
        simp [hS, ht]
      · have := hI.old t (fun j o' hj hd => absurd ⟨j, o', hj, hd⟩ hw) S0[t] (by simp [hS, ht])
        rw [hc] at this
        exact this
  have hact : slAct (fillS S0 l ss l.length) (fun t => a.tmps.getD t undef) d = a := by
    obtain ⟨tm, df⟩ := a
    have hd : df = d := hI.defers
    have hz : tm.size = n := hI.size
    subst hd
    unfold slAct
    congr 1
    apply Array.ext_getElem?
    intro t
    by_cases ht : t < n
    · obtain ⟨s, h1, h2⟩ := hget t ht
      exact slAct_get2 (a := ⟨tm, df⟩) (d := df) h1 rfl h2 (by rw [hz]; exact ht)
    · rw [Array.getElem?_eq_none (by simp only [List.size_toArray, slVals_length, fillS_length, hS]; omega), Array.getElem?_eq_none (by omega)]
  have := hfin (fun t => a.tmps.getD t undef) w hI.cls (fun j t V hk hjt hV => by
    obtain ⟨o', hj, hd⟩ : ∃ o', l[j]? = some o' ∧ o'.dst = some t := by
      cases hj : l[j]? with
      | none => rw [hj] at hjt; cases hjt
      | some o' => rw [hj] at hjt; exact ⟨o', rfl, hjt⟩
    have hjl : j < l.length := (List.getElem?_eq_some_iff.1 hj).1
    have htn : t < n := (ghostB_spec hB (i := j) (o := o') (by simpa using hj)).lt t hd
    have hnew := fillS_new l S0 ss l.length t j o' (ss[j]'(by rw [hl]; exact hjl)) hl (by rw [hS]; exact htn) hjl hj hd (by simp) (hone j o' t hj hd)
    have hsj : ss[j]'(by rw [hl]; exact hjl) = .pred V := Option.some.inj (hnew.symm.trans hV)
    have := hI.new j o' _ t hj (by simp [hl, hjl] : ss[j]? = some (ss[j]'(by rw [hl]; exact hjl))) hd (hall j o' t hj hd) (.inr (.inl hk))
    rw [hsj] at this
    exact this)
  rwa [hact] at this
theorem Inv.finish {listed : Array Bool} {a : Act} {w : World} {Q : Exit → Act → World → Prop} (hI : Inv l C D bigs keeps d n S0 ss listed a w) (hB : ghostB l.toArray n = true) (hl : ss.length = l.length) (hS : S0.length = n)
    (hfin : Done l C keeps d Q (fillS S0 l ss l.length))
    (hr : Region.ready .any l.toArray listed = []) : Q .normal a w :=
  hI.endK hB hl hS hfin (fun j _ _ hj _ => all_listed hB hI.lsize hr j (List.getElem?_eq_some_iff.1 hj).1)

theorem wpAny_ghost {P : Program} {Q : Exit → Act → World → Prop} (hB : ghostB l.toArray n = true) (hl : ss.length = l.length) (hS : S0.length = n) (hS0 : ∀ (t : Nat) (s : Slot), S0[t]? = some s → ∃ c, s = Slot.val c)
    (hD : ∀ w w', C w → C w' → R w w' → D w → D w') (hRr : ∀ w, C w → R w w) (hRr' : ∀ w, C w → R' w w) (hA : ancB l.toArray ms = true) (hG : bigB l.toArray ms bigs preds keeps = true)
    (hob : ∀ (i : Nat) (o : Oper) (s : Slot), l[i]? = some o → ss[i]? = some s → Keeps C R preds i s ∧ Ob P l.toArray C D R R' bigs (aliveM ms bigs i) i o (fillS S0 l ss i) d s)
    (hfin : Done l C keeps d Q (fillS S0 l ss l.length)) :
    ∀ (fuel : Nat) (listed : Array Bool) (a : Act) (w : World), listed.toList.count false ≤ fuel → Inv l C D bigs keeps d n S0 ss listed a w → wpAny P .any l.toArray Q fuel listed a w := by
  have hst : ∀ (i : Nat) (s : Slot), ss[i]? = some s → Keeps C R preds i s := by
    intro i s hs
    have hi : i < l.length := by rw [← hl]; exact (List.getElem?_eq_some_iff.1 hs).1
    exact (hob i l[i] s (by simp [hi]) hs).1
  intro fuel
  induction fuel with
  | zero =>
    intro listed a w hc hI
    have hr : Region.ready .any l.toArray listed = [] := by
      apply List.eq_nil_iff_forall_not_mem.2
      intro j hj
      obtain ⟨hun, _⟩ := mem_ready.1 hj
      have hjl : j < listed.size := by
        rcases Nat.lt_or_ge j listed.size with h | h
        · exact h
        · simp [Array.getElem?_eq_none h] at hun
      have hm : false ∈ listed.toList := by
        have : listed[j] = false := by simpa [hjl] using hun
        rw [← this]; simp
      have := List.count_pos_iff.2 hm
      omega
    exact ⟨hr, hI.finish hB hl hS hfin hr⟩
  | succ fuel ih =>
    intro listed a w hc hI
    refine ⟨hI.finish hB hl hS hfin, fun i hi => ?_⟩
    obtain ⟨hun, o, ho, hall⟩ := mem_ready.1 hi
    have hio : l[i]? = some o := by simpa using ho
    have hil : i < l.length := (List.getElem?_eq_some_iff.1 hio).1
    have hsi : ss[i]? = some (ss[i]'(by rw [hl]; exact hil)) := by simp
    have hils : i < listed.size := by rw [hI.lsize]; exact hil
    have hcount : (listed.setIfInBounds i true).toList.count false ≤ fuel := by
      have hlf : listed.toList[i]'(by simpa using hils) = false := by simpa [hils] using hun
      have hpos := List.count_pos_iff.2 (show false ∈ listed.toList by rw [← hlf]; simp)
      rw [Array.toList_setIfInBounds, List.count_set (by simpa using hils), hlf]
      simp only [beq_self_eq_true, if_true]
      have : (true == false) = false := rfl
      rw [this]
      simp only [Bool.false_eq_true, if_false]
      omega
    have hL := ghostB_spec hB (i := i) (o := o) ho
    have hsame := fun t ht => hI.same hB hl hS hio hi t ht
    have hO := (hob i o _ hio hsi).2 (fun t => a.tmps.getD t undef) w hI.cls (fun hal => by
      refine hI.alive fun b hb => ?_
      have h1 := List.all_eq_true.1 hal b (by simpa using hb)
      simp only [Bool.or_eq_true, beq_iff_eq] at h1
      rcases h1 with h1 | h1
      · rw [h1]; exact hun
      · cases hx : listed.getD b true with
        | false => rfl
        | true =>
          rcases Nat.lt_or_ge b l.length with hbl | hbl
          · have := anc_listed hA hB hI.closed b l[b] (by simp [hbl]) (hI.closed b l[b] (by simp [hbl]) hx) i hil h1
            rw [hun] at this
            cases this
          · have : anc ms b i = false := by
              unfold bigB at hG
              have h4 := List.all_eq_true.1 hG b (by simpa using hb)
              simp only [Bool.and_eq_true, decide_eq_true_eq] at h4
              have := h4.1
              simp at this
              omega
            rw [this] at h1
            cases h1) (fun t V ht hV => by
      have htn : t < n := by
        have := (List.getElem?_eq_some_iff.1 hV).1
        rwa [fillS_length, hS] at this
      obtain ⟨s, h1, h2⟩ := hI.sees hB hl hS hio hi t ht htn
      obtain rfl : s = .pred V := Option.some.inj (h1.symm.trans hV)
      exact h2)
    rw [wanted_same (a := a) hsame] at hO
    unfold wpOp
    rw [ho]
    simp only
    by_cases hw : Region.wanted o (yielded l.toArray a.tmps) = true
    · rw [if_pos hw] at hO ⊢
      left
      unfold yld at hO
      rw [exec_same hL.sel hsame] at hO
      exact wp_of_yld P hO fun v w' ⟨h1, h2, h3⟩ => ih _ _ _ hcount (hI.step hB hS0 hst hD hA hG hio hsi hi h1 h2 h3)
    · rw [if_neg hw] at hO ⊢
      exact ih _ _ _ hcount (hI.step hB hS0 hst hD hA hG hio hsi hi hI.cls (by unfold eff; split; exact hRr' w hI.cls; exact hRr w hI.cls) hO)

def initS (a : Act) : List Slot := a.tmps.toList.map Slot.val
theorem initS_get {a : Act} {t : Nat} {s : Slot} (h : (initS a)[t]? = some s) : s = .val (a.tmps.getD t undef) ∧ t < a.tmps.size := by
  unfold initS at h
  rw [List.getElem?_map] at h
  cases hx : a.tmps.toList[t]? with
  | none => simp [hx] at h
  | some v =>
    have hlt : t < a.tmps.size := by simpa using (List.getElem?_eq_some_iff.1 hx).1
    have hv : a.tmps[t] = v := by simpa [hlt] using hx
    rw [hx] at h
    simp only [Option.map_some, Option.some.injEq] at h
    refine ⟨?_, hlt⟩
    rw [← h]
    simp [hlt, hv]

theorem fillS_take (m : Nat) : ∀ (l : List Oper) (S : List Slot) (ss : List Slot) (o : Oper) (s : Slot), l.length = m + 1 → l[m]? = some o → o.dst = none → ss.length = m → fillS S l (ss ++ [s]) (m + 1) = fillS S (l.take m) ss m := by
  induction m with
  | zero =>
    intro l S ss o s hl ho hd hs
    obtain rfl : ss = [] := List.eq_nil_of_length_eq_zero hs
    cases l with
    | nil => simp at hl
    | cons o' l' =>
      obtain rfl : l' = [] := List.eq_nil_of_length_eq_zero (by simpa using hl)
      simp only [List.getElem?_cons_zero, Option.some.injEq] at ho
      subst ho
      simp only [List.nil_append, fillS, setD, hd]
  | succ m ih =>
    intro l S ss o s hl ho hd hs
    cases l with
    | nil => simp at hl
    | cons o' l' =>
      cases ss with
      | nil => simp at hs
      | cons s' ss' =>
        have := ih l' (setD S o'.dst s') ss' o s (by simpa using hl) (by simpa using ho) hd (by simpa using hs)
        rw [List.cons_append, fillS, List.take_succ_cons, fillS]
        exact this
theorem fillS_pre (l : List Oper) : ∀ (m : Nat) (S : List Slot) (ss : List Slot) (s : Slot) (i : Nat), i ≤ m → m ≤ ss.length → fillS S l (ss ++ [s]) i = fillS S (l.take m) ss i := by
  induction l with
  | nil => intro m S ss s i hi hm; cases i <;> simp [fillS]
  | cons o l ih =>
    intro m S ss s i hi hm
    cases i with
    | zero => simp [fillS]
    | succ i =>
      cases m with
      | zero => omega
      | succ m =>
        match ss, hm with
        | s' :: ss', hm =>
          simp only [List.cons_append, fillS, List.take_succ_cons]
          exact ih m _ ss' s i (by omega) (by simpa using hm)

/-- The last operation waits for all others and writes no slot: it is carried out behind them. -/
def tailB (l : List Oper) (m : Nat) : Bool := match l[m]? with
  | none => false
  | some o => decide (l.length = m + 1) && (match o.dst with | none => true | some _ => false) && (match o.guard with | none => true | some _ => false) && (List.range m).all fun j => anc (ancs l.toArray) m j

theorem wpAny_ghost_tail {P : Program} {Q : Exit → Act → World → Prop} (m : Nat) (olast : Oper) (hlm : l.length = m + 1) (holast : l[m]? = some olast) (hdl : olast.dst = none) (hgl : olast.guard = none)
    (hB : ghostB l.toArray n = true) (hl : ss.length = l.length) (hS : S0.length = n) (hS0 : ∀ (t : Nat) (s : Slot), S0[t]? = some s → ∃ c, s = Slot.val c)
    (hafter : ∀ j, j < m → anc ms m j = true)
    (hD : ∀ w w', C w → C w' → R w w' → D w → D w') (hRr : ∀ w, C w → R w w) (hRr' : ∀ w, C w → R' w w) (hA : ancB l.toArray ms = true) (hG : bigB l.toArray ms bigs preds keeps = true) (hst : ∀ (i : Nat) (s : Slot), ss[i]? = some s → Keeps C R preds i s)
    (hob : ∀ (i : Nat) (o : Oper) (s : Slot), i < m → l[i]? = some o → ss[i]? = some s → Ob P l.toArray C D R R' bigs (aliveM ms bigs i) i o (fillS S0 l ss i) d s)
    (hfin : DoneK l C keeps d (fun a w => olast.wp P a w (Q .normal) Q) (fillS S0 l ss l.length)) :
    ∀ (fuel : Nat) (listed : Array Bool) (a : Act) (w : World), listed.toList.count false ≤ fuel → listed.getD m true = false → Inv l C D bigs keeps d n S0 ss listed a w → wpAny P .any l.toArray Q fuel listed a w := by
  intro fuel
  induction fuel with
  | zero =>
    intro listed a w hc hm hI
    exfalso
    have hjl : m < listed.size := by rw [hI.lsize]; omega
    have hmem : false ∈ listed.toList := by
      have : listed[m] = false := by simpa [hjl] using hm
      rw [← this]; simp
    have := List.count_pos_iff.2 hmem
    omega
  | succ fuel ih =>
    intro listed a w hc hm hI
    refine ⟨fun hr => ?_, fun i hi => ?_⟩
    · have := all_listed hB hI.lsize hr m (by omega)
      rw [hm] at this
      cases this
    obtain ⟨hun, o, ho, hall⟩ := mem_ready.1 hi
    have hio : l[i]? = some o := by simpa using ho
    have hil : i < l.length := (List.getElem?_eq_some_iff.1 hio).1
    have hils : i < listed.size := by rw [hI.lsize]; exact hil
    have hcount : (listed.setIfInBounds i true).toList.count false ≤ fuel := by
      have hlf : listed.toList[i]'(by simpa using hils) = false := by simpa [hils] using hun
      have hpos := List.count_pos_iff.2 (show false ∈ listed.toList by rw [← hlf]; simp)
      rw [Array.toList_setIfInBounds, List.count_set (by simpa using hils), hlf]
      simp only [beq_self_eq_true, if_true]
      have : (true == false) = false := rfl
      rw [this]
      simp only [Bool.false_eq_true, if_false]
      omega
    by_cases him : i = m
    · subst him
      obtain rfl : o = olast := Option.some.inj (hio.symm.trans holast)
      have hend : o.wp P a w (Q .normal) Q := hI.endK (K := fun a w => o.wp P a w (Q .normal) Q) hB hl hS hfin (fun j o' t hj hd => by
        have hjl : j < l.length := (List.getElem?_eq_some_iff.1 hj).1
        have hjm : j ≠ i := fun e => by
          subst e
          obtain rfl : o' = o := Option.some.inj (hj.symm.trans holast)
          rw [hdl] at hd
          cases hd
        exact anc_listed hA hB hI.closed i o hio hall j hjl (hafter j (by omega)))
      unfold wpOp
      rw [ho]
      simp only
      rw [if_pos (by simp [Region.wanted, hgl])]
      left
      refine Oper.wp_mono (fun a' w' hq => ?_) hend
      have hall2 : ∀ j, j < l.length → (listed.setIfInBounds i true).getD j true = true := by
        intro j hj
        by_cases hji : j = i
        · rw [hji]; exact getD_set_self hils
        · rw [getD_set_other (Ne.symm hji)]
          exact anc_listed hA hB hI.closed i o hio hall j hj (hafter j (by omega))
      have hr0 : Region.ready .any l.toArray (listed.setIfInBounds i true) = [] := by
        apply List.eq_nil_iff_forall_not_mem.2
        intro j hj
        obtain ⟨hun', o', ho', _⟩ := mem_ready.1 hj
        have hjl : j < l.length := by simpa using (Array.getElem?_eq_some_iff.1 ho').1
        rw [hall2 j hjl] at hun'
        cases hun'
      cases fuel with
      | zero => exact ⟨hr0, hq⟩
      | succ f => exact ⟨fun _ => hq, fun j hj => by rw [hr0] at hj; cases hj⟩
    · have hsi : ss[i]? = some (ss[i]'(by rw [hl]; exact hil)) := by simp
      have hL := ghostB_spec hB (i := i) (o := o) ho
      have hsame := fun t ht => hI.same hB hl hS hio hi t ht
      have hO := (hob i o _ (by omega) hio hsi) (fun t => a.tmps.getD t undef) w hI.cls (fun hal => by
        refine hI.alive fun b hb => ?_
        have h1 := List.all_eq_true.1 hal b (by simpa using hb)
        simp only [Bool.or_eq_true, beq_iff_eq] at h1
        rcases h1 with h1 | h1
        · rw [h1]; exact hun
        · cases hx : listed.getD b true with
          | false => rfl
          | true =>
            rcases Nat.lt_or_ge b l.length with hbl | hbl
            · have := anc_listed hA hB hI.closed b l[b] (by simp [hbl]) (hI.closed b l[b] (by simp [hbl]) hx) i hil h1
              rw [hun] at this
              cases this
            · have : anc ms b i = false := by
                unfold bigB at hG
                have h4 := List.all_eq_true.1 hG b (by simpa using hb)
                simp only [Bool.and_eq_true, decide_eq_true_eq] at h4
                have := h4.1
                simp at this
                omega
              rw [this] at h1
              cases h1) (fun t V ht hV => by
        have htn : t < n := by
          have := (List.getElem?_eq_some_iff.1 hV).1
          rwa [fillS_length, hS] at this
        obtain ⟨s, h1, h2⟩ := hI.sees hB hl hS hio hi t ht htn
        obtain rfl : s = .pred V := Option.some.inj (h1.symm.trans hV)
        exact h2)
      have hm' : (listed.setIfInBounds i true).getD m true = false := by rw [getD_set_other him]; exact hm
      rw [wanted_same (a := a) hsame] at hO
      unfold wpOp
      rw [ho]
      simp only
      by_cases hw : Region.wanted o (yielded l.toArray a.tmps) = true
      · rw [if_pos hw] at hO ⊢
        left
        unfold yld at hO
        rw [exec_same hL.sel hsame] at hO
        exact wp_of_yld P hO fun v w' ⟨h1, h2, h3⟩ => ih _ _ _ hcount hm' (hI.step hB hS0 hst hD hA hG hio hsi hi h1 h2 h3)
      · rw [if_neg hw] at hO ⊢
        exact ih _ _ _ hcount hm' (hI.step hB hS0 hst hD hA hG hio hsi hi hI.cls (by unfold eff; split; exact hRr' w hI.cls; exact hRr w hI.cls) hO)

/-- THE REGION. -/
theorem wp_region_ghost {P : Program} {id : Nat} {Q : Exit → Act → World → Prop} {a : Act} {w : World} (bigs preds keeps : List Nat) (hm : P.follows .mixedOrders = true) (hB : ghostB l.toArray a.tmps.size = true)
    (hA : ancB l.toArray (ancs l.toArray) = true) (hG : bigB l.toArray (ancs l.toArray) bigs preds keeps = true) (hC : C { w with drawn := w.drawn + 1 }) (hD0 : D { w with drawn := w.drawn + 1 }) (hD : ∀ w w', C w → C w' → R w w' → D w → D w') (hRr : ∀ w, C w → R w w) (hRr' : ∀ w, C w → R' w w)
    (h : GW P l.toArray C D R R' bigs preds a.defers (Done l C keeps a.defers Q) 0 l (initS a)) : (Code.region id l.toArray true).wp P Q a w := by
  obtain ⟨ss, h1, h2, h3⟩ := GW.extract P l.toArray C D R R' bigs preds l 0 _ h
  simp only [Nat.zero_add] at h2
  refine wp_region_any hm (wpAny_ghost (D := D) (R := R) (R' := R') (bigs := bigs) (preds := preds) (keeps := keeps) (ms := ancs l.toArray) (d := a.defers) (n := a.tmps.size) (S0 := initS a) (ss := ss) hB h1 (by simp [initS]) (fun t s hs => ⟨_, (initS_get hs).1⟩) hD hRr hRr' hA hG h2 h3 _ _ _ _ ?_ ?_)
  · simp
  · refine ⟨hC, fun _ => hD0, rfl, rfl, by simp, ?_, ?_, ?_⟩
    · intro j o hj hx
      have hjl : j < l.length := (List.getElem?_eq_some_iff.1 hj).1
      simp [hjl] at hx
    · intro j o s t hj _ _ hx
      have hjl : j < l.length := (List.getElem?_eq_some_iff.1 hj).1
      simp [hjl] at hx
    · intro t _ s hs
      rw [(initS_get hs).1]
      rfl
/-- THE REGION, its last operation carried out behind all others. -/
theorem wp_region_ghost_tail {P : Program} {id : Nat} {Q : Exit → Act → World → Prop} {a : Act} {w : World} (m : Nat) (olast : Oper) (holast : l[m]? = some olast) (hT : tailB l m = true) (bigs preds keeps : List Nat) (hm : P.follows .mixedOrders = true) (hB : ghostB l.toArray a.tmps.size = true)
    (hA : ancB l.toArray (ancs l.toArray) = true) (hG : bigB l.toArray (ancs l.toArray) bigs preds keeps = true) (hC : C { w with drawn := w.drawn + 1 }) (hD0 : D { w with drawn := w.drawn + 1 }) (hD : ∀ w w', C w → C w' → R w w' → D w → D w') (hRr : ∀ w, C w → R w w) (hRr' : ∀ w, C w → R' w w)
    (h : GW P l.toArray C D R R' bigs preds a.defers (DoneK l C keeps a.defers (fun a w => olast.wp P a w (Q .normal) Q)) 0 (l.take m) (initS a)) : (Code.region id l.toArray true).wp P Q a w := by
  unfold tailB at hT
  rw [holast] at hT
  simp only [Bool.and_eq_true, decide_eq_true_eq] at hT
  obtain ⟨⟨⟨hlm, hd⟩, hg⟩, haf⟩ := hT
  have hdl : olast.dst = none := by cases h : olast.dst with
    | none => rfl
    | some _ => rw [h] at hd; cases hd
  have hgl : olast.guard = none := by cases h : olast.guard with
    | none => rfl
    | some _ => rw [h] at hg; cases hg
  have hafter : ∀ j, j < m → anc (ancs l.toArray) m j = true := fun j hj => List.all_eq_true.1 haf j (List.mem_range.2 hj)
  obtain ⟨ss, h1, h2, h3⟩ := GW.extract P l.toArray C D R R' bigs preds (l.take m) 0 _ h
  simp only [Nat.zero_add] at h2
  have hml : (l.take m).length = m := by simp [hlm]
  rw [hml] at h1 h3
  have hssl : (ss ++ [Slot.val undef]).length = l.length := by simp [h1, hlm]
  refine wp_region_any hm (wpAny_ghost_tail (D := D) (R := R) (R' := R') (bigs := bigs) (preds := preds) (keeps := keeps) (ms := ancs l.toArray) (d := a.defers) (n := a.tmps.size) (S0 := initS a) (ss := ss ++ [.val undef]) m olast hlm holast hdl hgl hB hssl (by simp [initS]) (fun t s hs => ⟨_, (initS_get hs).1⟩) hafter hD hRr hRr' hA hG ?_ ?_ ?_ _ _ _ _ ?_ ?_ ?_)
  · intro i s hs
    by_cases him : i < m
    · rw [List.getElem?_append_left (by omega)] at hs
      exact (h2 i ((l.take m)[i]'(by omega)) s (by simp [hml, him]) hs).1
    · rw [List.getElem?_append_right (by omega)] at hs
      have : i - ss.length = 0 := by
        have := (List.getElem?_eq_some_iff.1 hs).1
        simp at this
        omega
      rw [this] at hs
      simp at hs
      exact .inl ⟨_, hs.symm⟩
  · intro i o s him ho hs
    rw [List.getElem?_append_left (by omega)] at hs
    have := (h2 i o s (by rw [List.getElem?_take_of_lt him]; exact ho) hs).2
    rwa [fillS_pre l m _ ss (.val undef) i (by omega) (by omega)]
  · rw [hlm, fillS_take m l _ ss olast _ hlm holast hdl h1]
    exact h3
  · simp
  · simp [hlm]
  · refine ⟨hC, fun _ => hD0, rfl, rfl, by simp, ?_, ?_, ?_⟩
    · intro j o hj hx
      have hjl : j < l.length := (List.getElem?_eq_some_iff.1 hj).1
      simp [hjl] at hx
    · intro j o s t hj _ _ hx
      have hjl : j < l.length := (List.getElem?_eq_some_iff.1 hj).1
      simp [hjl] at hx
    · intro t _ s hs
      rw [(initS_get hs).1]
      rfl
end
end Go.Proofs.Ytnmnknjgibkkaaa
