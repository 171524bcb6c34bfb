/- A region in any order whose last two operations are a store and a move; one operation that only takes a part may come behind the store. A region in any order whose last operations are a chain: they are carried out in the text's order, behind all others. An aggregate is stored into a row at hand. rule: a lock with the view that it proves. rule: the higher of two locks, in both. rule: the document's Higher; locks compared. rule's laws: votes of so many nodes, and what they prove. -/
import Derived.Test.YtkcmnhmbpamehaaGen
import Derived.Test.YtkcmnhmbpamehaaRuJ1
namespace Go.Proofs.Ytkcmnhmbpamehaa
section
open Go.RowKit Go.MapKept
set_option linter.unusedSimpArgs false
set_option linter.unusedVariables false
theorem count_list {listed : Array Bool} {i : Nat} (h : listed.getD i true = false) : (listed.setIfInBounds i true).toList.count false + 1 = listed.toList.count false := by
  have hils : i < listed.size := by
    rcases Nat.lt_or_ge i listed.size with h1 | h1
    · exact h1
    · simp [Array.getElem?_eq_none h1] at h
  have hlf : listed.toList[i]'(by simpa using hils) = false := by simpa [hils] using h
  have hpos := List.count_pos_iff.2 (show false ∈ listed.toList by rw [← hlf]; simp)
  rw [Array.toList_setIfInBounds, List.count_set (by simpa using hils), hlf]
  simp only [beq_self_eq_true, if_true]
  have : (true == false) = false := rfl
  rw [this]
  simp only [Bool.false_eq_true, if_false]
  omega
theorem getD_true_false {listed : Array Bool} {j : Nat} (hj : j < listed.size) (h : listed.getD j true = true) : listed.getD j false = true := by
  simpa [hj] using h
section
variable {P : Program} {l : List Oper} {n fuel : Nat} {listed : Array Bool} {a : Act} {w : World} {Q : Exit → Act → World → Prop}
theorem wpAny_done (hall : ∀ j, j < l.length → listed.getD j true = true) (hq : Q .normal a w) : wpAny P .any l.toArray Q fuel listed a w := by
  have hr0 : Region.ready .any l.toArray listed = [] := by
    apply List.eq_nil_iff_forall_not_mem.2
    intro j hj
    obtain ⟨hun', o', ho', _⟩ := mem_ready.1 hj
    have hjl : j < l.length := by simpa using (Array.getElem?_eq_some_iff.1 ho').1
    rw [hall j hjl] at hun'
    cases hun'
  cases fuel with
  | zero => exact ⟨hr0, hq⟩
  | succ f => exact ⟨fun _ => hq, fun j hj => by rw [hr0] at hj; cases hj⟩
/-- One operation is left, or more of which just one may come up. -/
theorem wpAny_next (hB : ghostB l.toArray n = true) {k : Nat} {o : Oper} (ho : l[k]? = some o) (hg : o.guard = none) (hsz : listed.size = l.length) (hun : listed.getD k true = false) (hbefore : ∀ j, j < k → listed.getD j true = true)
    (hblock : ∀ i, i ∈ Region.ready .any l.toArray listed → i = k) (hwp : o.wp P a w (fun a' w' => wpAny P .any l.toArray Q fuel (listed.setIfInBounds k true) a' w') Q) : wpAny P .any l.toArray Q (fuel + 1) listed a w := by
  have hk : k < l.length := (List.getElem?_eq_some_iff.1 ho).1
  have hL := ghostB_spec hB (i := k) (o := o) (by simpa using ho)
  have hkr : k ∈ Region.ready .any l.toArray listed := mem_ready.2 ⟨hun, o, by simpa using ho, fun e he hb => by
    have hlt := hL.back e he hb
    exact getD_true_false (by omega) (hbefore _ hlt)⟩
  refine ⟨(fun h => by rw [h] at hkr; cases hkr), fun i hi => ?_⟩
  obtain rfl := hblock i hi
  unfold wpOp
  have ho' : l.toArray[i]? = some o := by simpa using ho
  rw [ho']
  simp only
  rw [if_pos (by simp [Region.wanted, hg])]
  exact .inl hwp
end
section
variable {l : List Oper} {C D : World → Prop} {R R' : World → World → Prop} {bigs preds keeps ms : List Nat} {d : List Deferred} {n : Nat} {S0 ss : List Slot}
/-- What is known before operation m, where all before it have been carried out, and it and those behind have not. -/
theorem Inv.endM {listed : Array Bool} {a : Act} {w : World} {K : Act → World → Prop} (m : Nat) (hml : m ≤ l.length) (hI : Inv l C D bigs keeps d n S0 ss listed a w) (hB : ghostB l.toArray n = true) (hl : ss.length = l.length) (hS : S0.length = n) (hS0 : ∀ (t : Nat) (s : Slot), S0[t]? = some s → ∃ c, s = Slot.val c)
    (hfin : DoneK l C keeps d K (fillS S0 l ss m)) (hall : ∀ j, j < m → listed.getD j true = true) (hnot : ∀ j, m ≤ j → j < l.length → listed.getD j true = false) : K a w := by
  have hone : ∀ (j : Nat) (o' : Oper) (t : Nat), l[j]? = some o' → o'.dst = some t → ∀ j' o'', l[j']? = some o'' → o''.dst = some t → j' = j := by
    intro j o' t hj hd j' o'' hj' hd'
    have hLj := ghostB_spec hB (i := j) (o := o') (by simpa using hj)
    by_cases he : j' = j
    · exact he
    · exact absurd hd (hLj.apart j' o'' t (by simpa using hj') he hd').1
  have hget : ∀ t, t < n → ∃ s, (fillS S0 l ss m)[t]? = some s ∧ (∀ c, s = .val c → a.tmps.getD t undef = c) := by
    intro t ht
    by_cases hw : ∃ (j : Nat) (o' : Oper), j < m ∧ l[j]? = some o' ∧ o'.dst = some t
    · obtain ⟨j, o', hjm, hj, hd⟩ := hw
      have hjl : j < l.length := by omega
      refine ⟨ss[j], fillS_new l S0 ss m t j o' _ hl (by rw [hS]; exact ht) hjm hj hd (by simp) (hone j o' t hj hd), fun c hc => ?_⟩
      have := hI.new j o' _ t hj (by simp [hl, hjl] : ss[j]? = some ss[j]) hd (hall j hjm) (.inl ⟨c, hc⟩)
      rw [hc] at this
      exact this
    · refine ⟨S0[t], ?_, fun c hc => ?_⟩
      · rw [fillS_old l S0 ss m t (fun j o' hjm hj hd => hw ⟨j, o', hjm, hj, hd⟩)]
        simp [hS, ht]
      · have := hI.old t (fun j o' hj hd => by
          have hjl : j < l.length := (List.getElem?_eq_some_iff.1 hj).1
          rcases Nat.lt_or_ge j m with hjm | hjm
          · exact absurd ⟨j, o', hjm, hj, hd⟩ hw
          · exact hnot j hjm hjl) S0[t] (by simp [hS, ht])
        rw [hc] at this
        exact this
  have hact : slAct (fillS S0 l ss m) (fun t => a.tmps.getD t undef) d = a := by
    obtain ⟨tm, df⟩ := a
    have hd : df = d := hI.defers
    have hz : tm.size = n := hI.size
    subst hd
    unfold slAct
    congr 1
    apply Array.ext_getElem?
    intro t
    by_cases ht : t < n
    · obtain ⟨s, h1, h2⟩ := hget t ht
      exact slAct_get2 (a := ⟨tm, df⟩) (d := df) h1 rfl h2 (by rw [hz]; exact ht)
    · rw [Array.getElem?_eq_none (by simp only [List.size_toArray, slVals_length, fillS_length, hS]; omega), Array.getElem?_eq_none (by omega)]
  have := hfin (fun t => a.tmps.getD t undef) w hI.cls (fun j t V hk hjt hV => by
    obtain ⟨o', hj, hd⟩ : ∃ o', l[j]? = some o' ∧ o'.dst = some t := by
      cases hj : l[j]? with
      | none => rw [hj] at hjt; cases hjt
      | some o' => rw [hj] at hjt; exact ⟨o', rfl, hjt⟩
    have hjl : j < l.length := (List.getElem?_eq_some_iff.1 hj).1
    have htn : t < n := (ghostB_spec hB (i := j) (o := o') (by simpa using hj)).lt t hd
    rcases Nat.lt_or_ge j m with hjm | hjm
    · have hnew := fillS_new l S0 ss m t j o' (ss[j]'(by rw [hl]; exact hjl)) hl (by rw [hS]; exact htn) hjm hj hd (by simp) (hone j o' t hj hd)
      have hsj : ss[j]'(by rw [hl]; exact hjl) = .pred V := Option.some.inj (hnew.symm.trans hV)
      have := hI.new j o' _ t hj (by simp [hl, hjl] : ss[j]? = some (ss[j]'(by rw [hl]; exact hjl))) hd (hall j hjm) (.inr (.inl hk))
      rw [hsj] at this
      exact this
    · exfalso
      rw [fillS_old l S0 ss m t (fun i o2 him hi hd2 => by
        have := hone j o' t hj hd i o2 hi hd2
        omega)] at hV
      obtain ⟨c, hc⟩ := hS0 t _ hV
      cases hc)
  rwa [hact] at this
end
theorem Oper.wp_sure {P : Program} {o : Oper} {a : Act} {w : World} {K K' : Act → World → Prop} {Q : Exit → Act → World → Prop} (h : ∀ a w, K a w → K' a w) (hh : o.wp P a w K (fun _ _ _ => False)) : o.wp P a w K' Q := by
  have hno : ¬ LetsOut (fun (_ : Exit) (_ : Act) (_ : World) => False) := by
    rintro ⟨_, _, h⟩
    exact h
  unfold Oper.wp at *
  generalize (execOp a.eval o).run P w = r at *
  cases r with
  | ok n w' =>
    cases n <;> simp only [Oper.upon] at hh ⊢ <;>
      first
        | exact h _ _ hh
        | exact Calls.mono hh (fun e w'' he => by cases e <;> first | exact h _ _ he | exact he.elim | exact (hno he).elim)
        | exact Rows.mono hh (fun _ _ he => h _ _ he)
  | halt x w' => cases x <;> simp only [Oper.upon] at hh ⊢
theorem put_none (a : Act) (v : Value) : a.put none v = a := rfl
section
variable {l : List Oper} {C D : World → Prop} {R R' : World → World → Prop} {bigs preds keeps ms : List Nat} {d : List Deferred} {n : Nat} {S0 ss : List Slot}
theorem wpAny_ghost_tail2 {P : Program} {Q : Exit → Act → World → Prop} (m p tp : Nat) (olast ofin op : Oper) (hlm : l.length = m + 2) (holast : l[m]? = some olast) (hofin : l[m + 1]? = some ofin) (hop : l[p]? = some op) (hpm : p < m) (hdl : olast.dst = none) (hgl : olast.guard = none) (hgf : ofin.guard = none) (hgp : op.guard = none) (hdp : op.dst = some tp)
    (hlook : tp ∉ olast.looksAt l.toArray) (hpure : ∀ ρ, (∃ v, ∀ w, (execOp ρ op).run P w = .ok (.value v) w) ∨ ∀ w, ∃ h w', (execOp ρ op).run P w = .halt h w')
    (hstore : ∀ ρ w, (∃ v w', (execOp ρ olast).run P w = .ok (.value v) w') ∨ (∃ w', (execOp ρ olast).run P w = .ok .skip w') ∨ ∃ h w', (execOp ρ olast).run P w = .halt h w')
    (hB : ghostB l.toArray n = true) (hl : ss.length = l.length) (hS : S0.length = n) (hS0 : ∀ (t : Nat) (s : Slot), S0[t]? = some s → ∃ c, s = Slot.val c)
    (hafter : ∀ j, j < m → j ≠ p → anc ms m j = true) (hafter2 : ∀ j, j ≤ m → anc ms (m + 1) j = true)
    (hD : ∀ w w', C w → C w' → R w w' → D w → D w') (hRr : ∀ w, C w → R w w) (hRr' : ∀ w, C w → R' w w) (hA : ancB l.toArray ms = true) (hG : bigB l.toArray ms bigs preds keeps = true) (hst : ∀ (i : Nat) (s : Slot), ss[i]? = some s → Keeps C R preds i s)
    (hob : ∀ (i : Nat) (o : Oper) (s : Slot), i < m → l[i]? = some o → ss[i]? = some s → Ob P l.toArray C D R R' bigs (aliveM ms bigs i) i o (fillS S0 l ss i) d s)
    (hfin : DoneK l C keeps d (fun a w => olast.wp P a w (fun a' w' => ofin.wp P a' w' (Q .normal) Q) (fun _ _ _ => False)) (fillS S0 l ss m)) :
    ∀ (fuel : Nat) (listed : Array Bool) (a : Act) (w : World), listed.toList.count false ≤ fuel → listed.getD m true = false → listed.getD (m + 1) true = false → Inv l C D bigs keeps d n S0 ss listed a w → wpAny P .any l.toArray Q fuel listed a w := by
  intro fuel
  induction fuel with
  | zero =>
    intro listed a w hc hm _ hI
    exfalso
    have := count_list hm
    omega
  | succ fuel ih =>
    intro listed a w hc hm hm1 hI
    have hsz := hI.lsize
    refine ⟨fun hr => ?_, fun i hi => ?_⟩
    · have := all_listed hB hI.lsize hr m (by omega)
      rw [hm] at this
      cases this
    obtain ⟨hun, o, ho, hall⟩ := mem_ready.1 hi
    have hio : l[i]? = some o := by simpa using ho
    have hil : i < l.length := (List.getElem?_eq_some_iff.1 hio).1
    have hils : i < listed.size := by rw [hI.lsize]; exact hil
    have hcount := count_list hun
    have hobs : ∀ (i : Nat) (o : Oper) (hio : l[i]? = some o) (him : i < m) (hi : i ∈ Region.ready .any l.toArray listed), if Region.wanted o (yielded l.toArray a.tmps) = true then yld P o a.eval w (fun v w' => C w' ∧ eff R R' bigs i w w' ∧ (ss[i]'(by rw [hl, hlm]; omega)).fits v w') else (ss[i]'(by rw [hl, hlm]; omega)).fits undef w := by
      intro i o hio him hi
      have hil : i < l.length := by omega
      have hun := (mem_ready.1 hi).1
      have hsi : ss[i]? = some (ss[i]'(by rw [hl]; exact hil)) := by simp
      have hL := ghostB_spec hB (i := i) (o := o) (by simpa using hio)
      have hsame := fun t ht => hI.same hB hl hS hio hi t ht
      have hO := (hob i o _ him hio hsi) (fun t => a.tmps.getD t undef) w hI.cls (fun hal => by
        refine hI.alive fun b hb => ?_
        have h1 := List.all_eq_true.1 hal b (by simpa using hb)
        simp only [Bool.or_eq_true, beq_iff_eq] at h1
        rcases h1 with h1 | h1
        · rw [h1]; exact hun
        · cases hx : listed.getD b true with
          | false => rfl
          | true =>
            rcases Nat.lt_or_ge b l.length with hbl | hbl
            · have := anc_listed hA hB hI.closed b l[b] (by simp [hbl]) (hI.closed b l[b] (by simp [hbl]) hx) i hil h1
              rw [hun] at this
              cases this
            · have : anc ms b i = false := by
                unfold bigB at hG
                have h4 := List.all_eq_true.1 hG b (by simpa using hb)
                simp only [Bool.and_eq_true, decide_eq_true_eq] at h4
                have := h4.1
                simp at this
                omega
              rw [this] at h1
              cases h1) (fun t V ht hV => by
        have htn : t < n := by
          have := (List.getElem?_eq_some_iff.1 hV).1
          rwa [fillS_length, hS] at this
        obtain ⟨s, h1, h2⟩ := hI.sees hB hl hS hio hi t ht htn
        obtain rfl : s = .pred V := Option.some.inj (h1.symm.trans hV)
        exact h2)
      rw [wanted_same (a := a) hsame] at hO
      unfold yld at hO ⊢
      rwa [exec_same hL.sel hsame] at hO
    rcases Nat.lt_trichotomy i m with him | him | him
    · have hsi : ss[i]? = some (ss[i]'(by rw [hl]; exact hil)) := by simp
      have hO := hobs i o hio him hi
      have hm' : (listed.setIfInBounds i true).getD m true = false := by rw [getD_set_other (by omega)]; exact hm
      have hm1' : (listed.setIfInBounds i true).getD (m + 1) true = false := by rw [getD_set_other (by omega)]; exact hm1
      unfold wpOp
      rw [ho]
      simp only
      by_cases hw : Region.wanted o (yielded l.toArray a.tmps) = true
      · rw [if_pos hw] at hO ⊢
        left
        exact wp_of_yld P hO fun v w' ⟨h1, h2, h3⟩ => ih _ _ _ (by omega) hm' hm1' (hI.step hB hS0 hst hD hA hG hio hsi hi h1 h2 h3)
      · rw [if_neg hw] at hO ⊢
        exact ih _ _ _ (by omega) hm' hm1' (hI.step hB hS0 hst hD hA hG hio hsi hi hI.cls (by unfold eff; split; exact hRr' w hI.cls; exact hRr w hI.cls) hO)
    · subst him
      obtain rfl : o = olast := Option.some.inj (hio.symm.trans holast)
      have hothers : ∀ j, j < i → j ≠ p → listed.getD j true = true := fun j hj hjp => anc_listed hA hB hI.closed i o hio hall j (by omega) (hafter j hj hjp)
      unfold wpOp
      rw [ho]
      simp only
      rw [if_pos (by simp [Region.wanted, hgl])]
      left
      have hcm := count_list (listed := listed.setIfInBounds i true) (i := i + 1) (by rw [getD_set_other (by omega)]; exact hm1)
      by_cases hp : listed.getD p true = true
      · have hend : o.wp P a w (fun a' w' => ofin.wp P a' w' (Q .normal) Q) (fun _ _ _ => False) := hI.endM i (by omega) hB hl hS hS0 hfin (fun j hj => by
          by_cases hjp : j = p
          · rw [hjp]; exact hp
          · exact hothers j hj hjp) (fun j h1 h2 => by
          rcases (by omega : j = i ∨ j = i + 1) with rfl | rfl
          · exact hm
          · exact hm1)
        refine Oper.wp_sure (fun a' w' hq => ?_) hend
        obtain ⟨f, rfl⟩ : ∃ f, fuel = f + 1 := ⟨fuel - 1, by omega⟩
        have hl2 : ∀ j, j < i + 1 → (listed.setIfInBounds i true).getD j true = true := fun j hj => by
          by_cases hji : j = i
          · rw [hji]; exact getD_set_self hils
          · rw [getD_set_other (Ne.symm hji)]
            by_cases hjp : j = p
            · rw [hjp]; exact hp
            · exact hothers j (by omega) hjp
        refine wpAny_next hB hofin hgf (by simpa using hsz) (by rw [getD_set_other (by omega)]; exact hm1) hl2 (fun k hk => ?_) (Oper.wp_mono (fun a2 w2 hq2 => wpAny_done (fun j hj => ?_) hq2) hq)
        · obtain ⟨hku, ok, hok, _⟩ := mem_ready.1 hk
          have hkl : k < l.length := by simpa using (Array.getElem?_eq_some_iff.1 hok).1
          rcases (by omega : k < i + 1 ∨ k = i + 1) with h | h
          · rw [hl2 k h] at hku; cases hku
          · exact h
        · rcases (by omega : j < i + 1 ∨ j = i + 1) with h | h
          · rw [getD_set_other (by omega)]; exact hl2 j h
          · rw [h]; exact getD_set_self (by simp; omega)
      · have hp0 : listed.getD p true = false := by simpa using hp
        have hLp := ghostB_spec hB (i := p) (o := op) (by simpa using hop)
        have hpl : p < l.length := by omega
        have hpr : p ∈ Region.ready .any l.toArray listed := mem_ready.2 ⟨hp0, op, by simpa using hop, fun e he hb => by
          have hlt := hLp.back e he hb
          exact getD_true_false (by omega) (hothers _ (by omega) (by omega))⟩
        have hO := hobs p op hop hpm hpr
        rw [if_pos (by simp [Region.wanted, hgp])] at hO
        unfold yld at hO
        rcases hpure a.eval with ⟨v, hv⟩ | hh
        · rw [hv] at hO
          have hsp : ss[p]? = some (ss[p]'(by rw [hl]; exact hpl)) := by simp
          have hI2 := hI.step hB hS0 hst hD hA hG hop hsp hpr hO.1 hO.2.1 hO.2.2
          have hend : o.wp P (a.put op.dst v) w (fun a' w' => ofin.wp P a' w' (Q .normal) Q) (fun _ _ _ => False) := hI2.endM i (by omega) hB hl hS hS0 hfin (fun j hj => by
            by_cases hjp : j = p
            · rw [hjp]; exact getD_set_self (by omega)
            · rw [getD_set_other (Ne.symm hjp)]; exact hothers j hj hjp) (fun j h1 h2 => by
            rw [getD_set_other (by omega)]
            rcases (by omega : j = i ∨ j = i + 1) with rfl | rfl
            · exact hm
            · exact hm1)
          have hes : execOp (a.put op.dst v).eval o = execOp a.eval o := by
            have hLi := ghostB_spec hB (i := i) (o := o) (by simpa using hio)
            refine exec_same (ops := l.toArray) hLi.sel (fun t ht => ?_)
            have htp : tp ≠ t := fun e => hlook (e ▸ ht)
            rw [hdp]
            show (a.tmps.setIfInBounds tp v)[t]? = a.tmps[t]?
            rw [Array.getElem?_setIfInBounds_ne htp]
          unfold Oper.wp at hend ⊢
          rw [hes] at hend
          have hnext : ∀ w1, ofin.wp P (a.put op.dst v) w1 (Q .normal) Q → wpAny P .any l.toArray Q fuel (listed.setIfInBounds i true) a w1 := by
            intro w1 hq
            have hcp := count_list (listed := listed.setIfInBounds i true) (i := p) (by rw [getD_set_other (by omega)]; exact hp0)
            have hcp2 := count_list (listed := (listed.setIfInBounds i true).setIfInBounds p true) (i := i + 1) (by rw [getD_set_other (by omega), getD_set_other (by omega)]; exact hm1)
            obtain ⟨f, rfl⟩ : ∃ f, fuel = f + 2 := ⟨fuel - 2, by omega⟩
            have hl2 : ∀ j, j < i + 1 → j ≠ p → (listed.setIfInBounds i true).getD j true = true := fun j hj hjp => by
              by_cases hji : j = i
              · rw [hji]; exact getD_set_self hils
              · rw [getD_set_other (Ne.symm hji)]; exact hothers j (by omega) hjp
            have hl3 : ∀ j, j < i + 1 → ((listed.setIfInBounds i true).setIfInBounds p true).getD j true = true := fun j hj => by
              by_cases hjp : j = p
              · rw [hjp]; exact getD_set_self (by simp; omega)
              · rw [getD_set_other (Ne.symm hjp)]; exact hl2 j hj hjp
            refine wpAny_next (fuel := f + 1) hB hop hgp (by simpa using hsz) (by rw [getD_set_other (by omega)]; exact hp0) (fun j hj => hl2 j (by omega) (by omega)) (fun k hk => ?_) ?_
            · obtain ⟨hku, ok, hok, hkall⟩ := mem_ready.1 hk
              have hkl : k < l.length := by simpa using (Array.getElem?_eq_some_iff.1 hok).1
              by_cases hkp : k = p
              · exact hkp
              · exfalso
                rcases (by omega : k < i + 1 ∨ k = i + 1) with h | h
                · rw [hl2 k h hkp] at hku; cases hku
                · subst h
                  have hcl : ∀ j o', l[j]? = some o' → (listed.setIfInBounds i true).getD j true = true → ∀ e ∈ o'.after, Region.binds .any e = true → (listed.setIfInBounds i true).getD e.on false = true := fun j o' hj hx e he hb => by
                    by_cases hji : j = i
                    · subst hji
                      obtain rfl : o' = o := Option.some.inj (hj.symm.trans hio)
                      have h9 := hall e he hb
                      by_cases hei : e.on = j
                      · rw [hei]; exact getD_set_self hils
                      · rw [getD_set_other (Ne.symm hei)]; exact h9
                    · rw [getD_set_other (Ne.symm hji)] at hx
                      have h9 := hI.closed j o' hj hx e he hb
                      by_cases hei : e.on = i
                      · rw [hei]; exact getD_set_self hils
                      · rw [getD_set_other (Ne.symm hei)]; exact h9
                  have := anc_listed hA hB hcl (i + 1) ok (by simpa using hok) hkall p (by omega) (hafter2 p (by omega))
                  rw [getD_set_other (by omega), hp0] at this
                  cases this
            · unfold Oper.wp
              rw [hv]
              show wpAny P .any l.toArray Q (f + 1) ((listed.setIfInBounds i true).setIfInBounds p true) (a.put op.dst v) w1
              refine wpAny_next hB hofin hgf (by simpa using hsz) (by rw [getD_set_other (by omega), getD_set_other (by omega)]; exact hm1) hl3 (fun k hk => ?_) (Oper.wp_mono (fun a2 w2 hq2 => wpAny_done (fun j hj => ?_) hq2) hq)
              · obtain ⟨hku, ok, hok, _⟩ := mem_ready.1 hk
                have hkl : k < l.length := by simpa using (Array.getElem?_eq_some_iff.1 hok).1
                rcases (by omega : k < i + 1 ∨ k = i + 1) with h | h
                · rw [hl3 k h] at hku; cases hku
                · exact h
              · rcases (by omega : j < i + 1 ∨ j = i + 1) with h | h
                · rw [getD_set_other (by omega)]; exact hl3 j h
                · rw [h]; exact getD_set_self (by simp; omega)
          rcases hstore a.eval w with ⟨u, w1, hr⟩ | ⟨w1, hr⟩ | ⟨x, w1, hr⟩
          · rw [hr] at hend ⊢
            simp only [Oper.upon, hdl, put_none] at hend ⊢
            exact hnext w1 hend
          · rw [hr] at hend ⊢
            simp only [Oper.upon, hdl, put_none] at hend ⊢
            exact hnext w1 hend
          · rw [hr] at hend
            cases x <;> simp only [Oper.upon] at hend
        · obtain ⟨x, w1, hr⟩ := hh w
          rw [hr] at hO
          exact hO.elim
    · exfalso
      have e : i = m + 1 := by omega
      subst e
      have := anc_listed hA hB hI.closed (m + 1) o hio hall m (by omega) (hafter2 m (Nat.le_refl _))
      rw [hm] at this
      cases this
end
theorem store_shape {P : Program} {o : Oper} {T : TypeId} {x y : Operand} (ho : o.op = .store T x y) (ρ : Operand → Value) (w : World) : (∃ v w', (execOp ρ o).run P w = .ok (.value v) w') ∨ (∃ w', (execOp ρ o).run P w = .ok .skip w') ∨ ∃ h w', (execOp ρ o).run P w = .halt h w' := by
  unfold execOp
  simp only [ho, Sem.run_bind]
  cases h : (Instr.storeAt T (ρ x) (ρ y)).run P w with
  | ok u w' => first | exact .inr (.inl ⟨w', rfl⟩) | exact .inl ⟨_, w', rfl⟩
  | halt h' w' => exact .inr (.inr ⟨h', w', rfl⟩)
theorem extract_shape {P : Program} {o : Oper} {x : Operand} {i : Nat} (ho : o.op = .extract x i) (ρ : Operand → Value) : (∃ v, ∀ w, (execOp ρ o).run P w = .ok (.value v) w) ∨ ∀ w, ∃ h w', (execOp ρ o).run P w = .halt h w' := by
  have key : (∃ v, ∀ w, (Instr.extract (ρ x) i).run P w = .ok v w) ∨ ∀ w, ∃ h w', (Instr.extract (ρ x) i).run P w = .halt h w' := by
    cases h : ρ x with
    | tuple vs =>
      cases h2 : vs[i]? with
      | some v => exact .inl ⟨v, fun w => by simp [Instr.extract, h2]⟩
      | none => exact .inr fun w => ⟨.stuck "Extract: no such component", w, by simp [Instr.extract, h2]⟩
    | _ => exact .inr fun w => ⟨.stuck "Extract: tuple expected", w, by simp [Instr.extract]⟩
  unfold execOp
  simp only [ho, Sem.run_bind]
  rcases key with ⟨v, hv⟩ | hh
  · exact .inl ⟨v, fun w => by rw [hv]; rfl⟩
  · exact .inr fun w => by
      obtain ⟨h, w', e⟩ := hh w
      exact ⟨h, w', by rw [e]; rfl⟩
def isStoreB : Op → Bool
  | .store .. => true
  | _ => false
def isExtractB : Op → Bool
  | .extract .. => true
  | _ => false
def tail2B (l : List Oper) (m p : Nat) : Bool := match l[m]?, l[m + 1]?, l[p]? with
  | some a, some b, some c => decide (l.length = m + 2) && decide (p < m) && isStoreB a.op && a.dst.isNone && a.guard.isNone && b.guard.isNone && c.guard.isNone && isExtractB c.op && (match c.dst with | some t => !(a.looksAt l.toArray).contains t | none => false) &&
    ((List.range m).all fun j => j == p || anc (ancs l.toArray) m j) && ((List.range (m + 1)).all fun j => anc (ancs l.toArray) (m + 1) j)
  | _, _, _ => false
theorem wp_region_tail2 {P : Program} {l : List Oper} {C D : World → Prop} {R R' : World → World → Prop} {id : Nat} {Q : Exit → Act → World → Prop} {a : Act} {w : World} (m p : Nat) (olast ofin : Oper) (holast : l[m]? = some olast) (hofin : l[m + 1]? = some ofin) (hT : tail2B l m p = true) (bigs preds keeps : List Nat) (hm : P.follows .mixedOrders = true) (hB : ghostB l.toArray a.tmps.size = true)
    (hA : ancB l.toArray (ancs l.toArray) = true) (hG : bigB l.toArray (ancs l.toArray) bigs preds keeps = true) (hC : C { w with drawn := w.drawn + 1 }) (hD0 : D { w with drawn := w.drawn + 1 }) (hD : ∀ w w', C w → C w' → R w w' → D w → D w') (hRr : ∀ w, C w → R w w) (hRr' : ∀ w, C w → R' w w)
    (h : GW P l.toArray C D R R' bigs preds a.defers (DoneK l C keeps a.defers (fun a w => olast.wp P a w (fun a' w' => ofin.wp P a' w' (Q .normal) Q) (fun _ _ _ => False))) 0 (l.take m) (initS a)) : (Code.region id l.toArray true).wp P Q a w := by
  unfold tail2B at hT
  rw [holast, hofin] at hT
  cases hop : l[p]? with
  | none => rw [hop] at hT; cases hT
  | some op =>
  rw [hop] at hT
  simp only [Bool.and_eq_true, decide_eq_true_eq, Option.isNone_iff_eq_none] at hT
  obtain ⟨⟨⟨⟨⟨⟨⟨⟨⟨⟨hlm, hpm⟩, hst⟩, hdl⟩, hgl⟩, hgf⟩, hgp⟩, hex⟩, hlk⟩, haf⟩, haf2⟩ := hT
  obtain ⟨tp, hdp⟩ : ∃ tp, op.dst = some tp := by
    cases hd : op.dst with
    | none => rw [hd] at hlk; cases hlk
    | some t => exact ⟨t, rfl⟩
  rw [hdp] at hlk
  have hlook : tp ∉ olast.looksAt l.toArray := by simpa using hlk
  have hafter : ∀ j, j < m → j ≠ p → anc (ancs l.toArray) m j = true := fun j hj hjp => by
    have := List.all_eq_true.1 haf j (List.mem_range.2 hj)
    simp only [Bool.or_eq_true, beq_iff_eq] at this
    exact this.resolve_left hjp
  have hafter2 : ∀ j, j ≤ m → anc (ancs l.toArray) (m + 1) j = true := fun j hj => List.all_eq_true.1 haf2 j (List.mem_range.2 (by omega))
  obtain ⟨ss, h1, h2, h3⟩ := GW.extract P l.toArray C D R R' bigs preds (l.take m) 0 _ h
  simp only [Nat.zero_add] at h2
  have hml : (l.take m).length = m := by simp [hlm]
  rw [hml] at h1 h3
  have hssl : (ss ++ [Slot.val undef, Slot.val undef]).length = l.length := by simp [h1, hlm]
  have hpre : ∀ i, i ≤ m → fillS (initS a) l (ss ++ [Slot.val undef, Slot.val undef]) i = fillS (initS a) (l.take m) ss i := by
    intro i hi
    rw [show ss ++ [Slot.val undef, Slot.val undef] = (ss ++ [Slot.val undef]) ++ [Slot.val undef] from by simp, fillS_pre l (m + 1) (initS a) (ss ++ [Slot.val undef]) (Slot.val undef) i (by omega) (by simp [h1])]
    have h9 := fillS_pre (l.take (m + 1)) m (initS a) ss (.val undef) i hi (by omega)
    rw [h9, List.take_take, Nat.min_eq_left (by omega)]
  refine wp_region_any hm (wpAny_ghost_tail2 (D := D) (R := R) (R' := R') (bigs := bigs) (preds := preds) (keeps := keeps) (ms := ancs l.toArray) (d := a.defers) (n := a.tmps.size) (S0 := initS a) (ss := ss ++ [.val undef, .val undef]) m p tp olast ofin op hlm holast hofin hop hpm hdl hgl hgf hgp hdp hlook ?_ ?_ hB hssl (by simp [initS]) (fun t s hs => ⟨_, (initS_get hs).1⟩) hafter hafter2 hD hRr hRr' hA hG ?_ ?_ ?_ _ _ _ _ ?_ ?_ ?_ ?_)
  · intro ρ
    cases ho : op.op <;> rw [ho] at hex <;> first | (cases hex; done) | exact extract_shape ho ρ
  · intro ρ w
    cases ho : olast.op <;> rw [ho] at hst <;> first | (cases hst; done) | exact store_shape ho ρ w
  · intro i s hs
    by_cases him : i < m
    · rw [List.getElem?_append_left (by omega)] at hs
      exact (h2 i ((l.take m)[i]'(by omega)) s (by simp [hml, him]) hs).1
    · rw [List.getElem?_append_right (by omega)] at hs
      have hi2 : i - ss.length < 2 := by
        have := (List.getElem?_eq_some_iff.1 hs).1
        simpa using this
      have : s = .val undef := by
        rcases (by omega : i - ss.length = 0 ∨ i - ss.length = 1) with e | e <;> rw [e] at hs <;> simpa using hs.symm
      exact .inl ⟨_, this⟩
  · intro i o s him ho hs
    rw [List.getElem?_append_left (by omega)] at hs
    have := (h2 i o s (by rw [List.getElem?_take_of_lt him]; exact ho) hs).2
    rwa [hpre i (by omega)]
  · rw [hpre m (Nat.le_refl _)]
    exact h3
  · simp
  · simp [hlm]
  · simp [hlm]
  · refine ⟨hC, fun _ => hD0, rfl, rfl, by simp, ?_, ?_, ?_⟩
    · intro j o hj hx
      have hjl : j < l.length := (List.getElem?_eq_some_iff.1 hj).1
      simp [hjl] at hx
    · intro j o s t hj _ _ hx
      have hjl : j < l.length := (List.getElem?_eq_some_iff.1 hj).1
      simp [hjl] at hx
    · intro t _ s hs
      rw [(initS_get hs).1]
      rfl
/-- The same, with a frame of what is at hand; new things alone are laid before the store. -/
theorem wp_region_memT2 {P : Program} {l : List Oper} {a : Act} {w w0 : World} {own : Nat → Prop} {L : List Item} {Q : Exit → Act → World → Prop} {id : Nat} (m p : Nat) (bigs preds keeps : List Nat) (olast ofin : Oper) (holast : l[m]? = some olast) (hofin : l[m + 1]? = some ofin) (hM : Mem w0 own w L) (hT : tail2B l m p = true) (hm : P.follows .mixedOrders = true) (hB : ghostB l.toArray a.tmps.size = true)
    (hA : ancB l.toArray (ancs l.toArray) = true) (hG : bigB l.toArray (ancs l.toArray) bigs preds keeps = true)
    (h : GW P l.toArray (CM w0 own L w.heap.size) Any1 Grows (GrowsB w.heap.size) bigs preds a.defers (DoneK l (CM w0 own L w.heap.size) keeps a.defers (fun a w => olast.wp P a w (fun a' w' => ofin.wp P a' w' (Q .normal) Q) (fun _ _ _ => False))) 0 (l.take m) (initS a)) : (Code.region id l.toArray true).wp P Q a w :=
  wp_region_tail2 m p olast ofin holast hofin hT (C := CM w0 own L w.heap.size) (D := Any1) (R := Grows) (R' := GrowsB w.heap.size) bigs preds keeps hm hB hA hG (cm_start hM) trivial (fun _ _ _ _ _ h => h) cm_quiet.1 cm_quiet.2 h
end
section
open Go.RowKit Go.MapKept
set_option linter.unusedSimpArgs false
set_option linter.unusedVariables false
/-- Operations, one behind the other. -/
def tailWp (P : Program) (Q : Exit → Act → World → Prop) : List Oper → Act → World → Prop
  | [], a, w => Q .normal a w
  | o :: r, a, w => o.wp P a w (fun a' w' => tailWp P Q r a' w') Q
/-- From m on each operation waits for the one before it, the first of them for all. -/
def chainB (l : List Oper) (m : Nat) : Bool :=
  decide (m < l.length) && ((List.range m).all fun j => anc (ancs l.toArray) m j) && (List.range l.length).all fun i => decide (i < m) || match l[i]? with
    | none => false
    | some o => (match o.guard with | none => true | some _ => false) && (i == m || o.after.any fun e => Region.binds .any e && e.on + 1 == i)
section
variable {P : Program} {l : List Oper} {n : Nat} {Q : Exit → Act → World → Prop}
theorem wpAny_chain (hB : ghostB l.toArray n = true) (m0 : Nat) (hg : ∀ i o, m0 ≤ i → l[i]? = some o → o.guard = none) (hlink : ∀ i o, m0 < i → l[i]? = some o → ∃ e ∈ o.after, Region.binds .any e = true ∧ e.on + 1 = i) :
    ∀ (r : List Oper) (m : Nat) (fuel : Nat) (listed : Array Bool) (a : Act) (w : World), m0 ≤ m → m ≤ l.length → l.drop m = r → listed.size = l.length → (∀ j, j < m → listed.getD j true = true) → (∀ j, m ≤ j → j < l.length → listed.getD j true = false) → r.length ≤ fuel → tailWp P Q r a w → wpAny P .any l.toArray Q fuel listed a w
  | [], m, fuel, listed, a, w, h0, hml, hd, hsz, hb, hn, hf, h => by
    have hml2 : l.length ≤ m := by simpa using hd
    exact wpAny_done (fun j hj => hb j (by omega)) h
  | o :: r, m, 0, listed, a, w, h0, hml, hd, hsz, hb, hn, hf, h => by simp at hf
  | o :: r, m, fuel + 1, listed, a, w, h0, hml, hd, hsz, hb, hn, hf, h => by
    have hlt : m < l.length := by
      rcases Nat.lt_or_ge m l.length with h1 | h1
      · exact h1
      · rw [List.drop_of_length_le h1] at hd; cases hd
    have ho : l[m]? = some o := by
      have := congrArg (·[0]?) hd
      simpa using this
    have hdr : l.drop (m + 1) = r := by
      rw [← List.tail_drop, hd]; rfl
    refine wpAny_next hB ho (hg m o h0 ho) hsz (hn m (Nat.le_refl _) hlt) hb (fun i hi => ?_) ?_
    · obtain ⟨hun, oi, hoi, hall⟩ := mem_ready.1 hi
      have hoi' : l[i]? = some oi := by simpa using hoi
      have hil : i < l.length := (List.getElem?_eq_some_iff.1 hoi').1
      rcases Nat.lt_trichotomy i m with h1 | h1 | h1
      · rw [hb i h1] at hun; cases hun
      · exact h1
      · obtain ⟨e, he, hbi, hon⟩ := hlink i oi (by omega) hoi'
        have h2 := hall e he hbi
        have h3 := hn e.on (by omega) (by omega)
        have : listed.getD e.on true = true := by
          have hlt2 : e.on < listed.size := by omega
          simpa [hlt2] using h2
        rw [this] at h3; cases h3
    · refine Oper.wp_mono (fun a' w' h' => ?_) (show o.wp P a w (fun a' w' => tailWp P Q r a' w') Q from h)
      refine wpAny_chain hB m0 hg hlink r (m + 1) fuel _ a' w' (by omega) (by omega) hdr (by simpa using hsz) (fun j hj => ?_) (fun j hj hjl => ?_) (by simp at hf; omega) h'
      · by_cases e : j = m
        · rw [e]; exact getD_set_self (by omega)
        · rw [getD_set_other (Ne.symm e)]; exact hb j (by omega)
      · rw [getD_set_other (by omega)]; exact hn j (by omega) hjl
end
section
variable {l : List Oper} {C D : World → Prop} {R R' : World → World → Prop} {bigs preds keeps ms : List Nat} {d : List Deferred} {n : Nat} {S0 ss : List Slot}
theorem wpAny_ghost_chain {P : Program} {Q : Exit → Act → World → Prop} (m : Nat) (hlm : m < l.length) (hg : ∀ i o, m ≤ i → l[i]? = some o → o.guard = none) (hlink : ∀ i o, m < i → l[i]? = some o → ∃ e ∈ o.after, Region.binds .any e = true ∧ e.on + 1 = i)
    (hB : ghostB l.toArray n = true) (hl : ss.length = l.length) (hS : S0.length = n) (hS0 : ∀ (t : Nat) (s : Slot), S0[t]? = some s → ∃ c, s = Slot.val c)
    (hafter : ∀ j, j < m → anc ms m j = true)
    (hD : ∀ w w', C w → C w' → R w w' → D w → D w') (hRr : ∀ w, C w → R w w) (hRr' : ∀ w, C w → R' w w) (hA : ancB l.toArray ms = true) (hG : bigB l.toArray ms bigs preds keeps = true) (hst : ∀ (i : Nat) (s : Slot), ss[i]? = some s → Keeps C R preds i s)
    (hob : ∀ (i : Nat) (o : Oper) (s : Slot), i < m → l[i]? = some o → ss[i]? = some s → Ob P l.toArray C D R R' bigs (aliveM ms bigs i) i o (fillS S0 l ss i) d s)
    (hfin : DoneK l C keeps d (fun a w => tailWp P Q (l.drop m) a w) (fillS S0 l ss m)) :
    ∀ (fuel : Nat) (listed : Array Bool) (a : Act) (w : World), listed.toList.count false ≤ fuel → (∀ j, m ≤ j → j < l.length → listed.getD j true = false) → Inv l C D bigs keeps d n S0 ss listed a w → wpAny P .any l.toArray Q fuel listed a w := by
  intro fuel
  induction fuel with
  | zero =>
    intro listed a w hc hm hI
    exfalso
    have hjl : m < listed.size := by rw [hI.lsize]; omega
    have hmem : false ∈ listed.toList := by
      have : listed[m] = false := by simpa [hjl] using hm m (Nat.le_refl _) hlm
      rw [← this]; simp
    have := List.count_pos_iff.2 hmem
    omega
  | succ fuel ih =>
    intro listed a w hc hm hI
    by_cases hrm : ∀ j, j < m → listed.getD j true = true
    · refine wpAny_chain hB m hg hlink (l.drop m) m (fuel + 1) listed a w (Nat.le_refl _) (Nat.le_of_lt hlm) rfl hI.lsize hrm hm ?_ ?_
      · refine Nat.le_trans ?_ hc
        have hs : (List.replicate (l.length - m) false).Sublist listed.toList := by
          have e1 : listed.toList.drop m = List.replicate (l.length - m) false := by
            apply List.ext_getElem
            · simp [hI.lsize]
            · intro i h1 h2
              have h1' : i < listed.size - m := by simpa using h1
              have := hm (m + i) (by omega) (by rw [← hI.lsize]; omega)
              have hlt : m + i < listed.size := by omega
              simpa [hlt] using this
          rw [← e1]
          exact List.drop_sublist _ _
        have := hs.count_le false
        simpa using this
      · exact hI.endM (K := fun a w => tailWp P Q (l.drop m) a w) m (Nat.le_of_lt hlm) hB hl hS hS0 hfin hrm hm
    refine ⟨fun hr => ?_, fun i hi => ?_⟩
    · have := all_listed hB hI.lsize hr m hlm
      rw [hm m (Nat.le_refl _) hlm] at this
      cases this
    obtain ⟨hun, o, ho, hall⟩ := mem_ready.1 hi
    have hio : l[i]? = some o := by simpa using ho
    have hil : i < l.length := (List.getElem?_eq_some_iff.1 hio).1
    have hils : i < listed.size := by rw [hI.lsize]; exact hil
    have hcount : (listed.setIfInBounds i true).toList.count false ≤ fuel := by
      have := count_list hun
      omega
    have him : i < m := by
      rcases Nat.lt_trichotomy i m with h1 | h1 | h1
      · exact h1
      · exfalso
        subst h1
        exact hrm fun j hj => anc_listed hA hB hI.closed i o hio hall j (by omega) (hafter j hj)
      · exfalso
        obtain ⟨e, he, hbi, hon⟩ := hlink i o h1 hio
        have h2 := hall e he hbi
        have h3 := hm e.on (by omega) (by omega)
        have : listed.getD e.on true = true := by
          have hlt2 : e.on < listed.size := by omega
          simpa [hlt2] using h2
        rw [this] at h3; cases h3
    have hsi : ss[i]? = some (ss[i]'(by rw [hl]; exact hil)) := by simp
    have hL := ghostB_spec hB (i := i) (o := o) ho
    have hsame := fun t ht => hI.same hB hl hS hio hi t ht
    have hO := (hob i o _ him hio hsi) (fun t => a.tmps.getD t undef) w hI.cls (fun hal => by
      refine hI.alive fun b hb => ?_
      have h1 := List.all_eq_true.1 hal b (by simpa using hb)
      simp only [Bool.or_eq_true, beq_iff_eq] at h1
      rcases h1 with h1 | h1
      · rw [h1]; exact hun
      · cases hx : listed.getD b true with
        | false => rfl
        | true =>
          rcases Nat.lt_or_ge b l.length with hbl | hbl
          · have := anc_listed hA hB hI.closed b l[b] (by simp [hbl]) (hI.closed b l[b] (by simp [hbl]) hx) i hil h1
            rw [hun] at this
            cases this
          · have : anc ms b i = false := by
              unfold bigB at hG
              have h4 := List.all_eq_true.1 hG b (by simpa using hb)
              simp only [Bool.and_eq_true, decide_eq_true_eq] at h4
              have := h4.1
              simp at this
              omega
            rw [this] at h1
            cases h1) (fun t V ht hV => by
      have htn : t < n := by
        have := (List.getElem?_eq_some_iff.1 hV).1
        rwa [fillS_length, hS] at this
      obtain ⟨s, h1, h2⟩ := hI.sees hB hl hS hio hi t ht htn
      obtain rfl : s = .pred V := Option.some.inj (h1.symm.trans hV)
      exact h2)
    have hm' : ∀ j, m ≤ j → j < l.length → (listed.setIfInBounds i true).getD j true = false := fun j hj hjl => by rw [getD_set_other (by omega)]; exact hm j hj hjl
    rw [wanted_same (a := a) hsame] at hO
    unfold wpOp
    rw [ho]
    simp only
    by_cases hw : Region.wanted o (yielded l.toArray a.tmps) = true
    · rw [if_pos hw] at hO ⊢
      left
      unfold yld at hO
      rw [exec_same hL.sel hsame] at hO
      exact wp_of_yld P hO fun v w' ⟨h1, h2, h3⟩ => ih _ _ _ hcount hm' (hI.step hB hS0 hst hD hA hG hio hsi hi h1 h2 h3)
    · rw [if_neg hw] at hO ⊢
      exact ih _ _ _ hcount hm' (hI.step hB hS0 hst hD hA hG hio hsi hi hI.cls (by unfold eff; split; exact hRr' w hI.cls; exact hRr w hI.cls) hO)
end
theorem fillS_preN (l : List Oper) : ∀ (m : Nat) (S : List Slot) (ss tl : List Slot) (i : Nat), i ≤ m → m ≤ ss.length → fillS S l (ss ++ tl) i = fillS S (l.take m) ss i := by
  induction l with
  | nil => intro m S ss tl i hi hm; cases i <;> simp [fillS]
  | cons o l ih =>
    intro m S ss tl i hi hm
    cases i with
    | zero => simp [fillS]
    | succ i =>
      cases m with
      | zero => omega
      | succ m =>
        cases ss with
        | nil => simp at hm
        | cons s ss =>
          simp only [List.cons_append, fillS, List.take_succ_cons]
          exact ih m _ ss tl i (by omega) (by simpa using hm)
theorem wp_region_chain {P : Program} {l : List Oper} {C D : World → Prop} {R R' : World → World → Prop} {id : Nat} {Q : Exit → Act → World → Prop} {a : Act} {w : World} (m : Nat) (hT : chainB l m = true) (bigs preds keeps : List Nat) (hm : P.follows .mixedOrders = true) (hB : ghostB l.toArray a.tmps.size = true)
    (hA : ancB l.toArray (ancs l.toArray) = true) (hG : bigB l.toArray (ancs l.toArray) bigs preds keeps = true) (hC : C { w with drawn := w.drawn + 1 }) (hD0 : D { w with drawn := w.drawn + 1 }) (hD : ∀ w w', C w → C w' → R w w' → D w → D w') (hRr : ∀ w, C w → R w w) (hRr' : ∀ w, C w → R' w w)
    (h : GW P l.toArray C D R R' bigs preds a.defers (DoneK l C keeps a.defers (fun a w => tailWp P Q (l.drop m) a w)) 0 (l.take m) (initS a)) : (Code.region id l.toArray true).wp P Q a w := by
  unfold chainB at hT
  simp only [Bool.and_eq_true, decide_eq_true_eq] at hT
  obtain ⟨⟨hlm, haf⟩, hch⟩ := hT
  have hafter : ∀ j, j < m → anc (ancs l.toArray) m j = true := fun j hj => List.all_eq_true.1 haf j (List.mem_range.2 hj)
  have hchain : ∀ i o, m ≤ i → l[i]? = some o → o.guard = none ∧ (i = m ∨ ∃ e ∈ o.after, Region.binds .any e = true ∧ e.on + 1 = i) := by
    intro i o hi ho
    have hil : i < l.length := (List.getElem?_eq_some_iff.1 ho).1
    have h1 := List.all_eq_true.1 hch i (List.mem_range.2 hil)
    rw [ho] at h1
    simp only [Bool.or_eq_true, decide_eq_true_eq, Bool.and_eq_true, beq_iff_eq] at h1
    rcases h1 with h1 | ⟨h1, h2⟩
    · omega
    · refine ⟨?_, ?_⟩
      · cases hq : o.guard with
        | none => rfl
        | some _ => rw [hq] at h1; cases h1
      · rcases h2 with h2 | h2
        · exact .inl h2
        · obtain ⟨e, he, h3⟩ := Array.any_eq_true'.1 h2
          simp only [Bool.and_eq_true, beq_iff_eq] at h3
          exact .inr ⟨e, he, h3⟩
  obtain ⟨ss, h1, h2, h3⟩ := GW.extract P l.toArray C D R R' bigs preds (l.take m) 0 _ h
  simp only [Nat.zero_add] at h2
  have hml : (l.take m).length = m := by simp; omega
  rw [hml] at h1 h3
  have hssl : (ss ++ List.replicate (l.length - m) (Slot.val undef)).length = l.length := by simp [h1]; omega
  have hpre : ∀ i, i ≤ m → fillS (initS a) l (ss ++ List.replicate (l.length - m) (Slot.val undef)) i = fillS (initS a) (l.take m) ss i := fun i hi => fillS_preN l m _ ss _ i hi (by omega)
  refine wp_region_any hm (wpAny_ghost_chain (D := D) (R := R) (R' := R') (bigs := bigs) (preds := preds) (keeps := keeps) (ms := ancs l.toArray) (d := a.defers) (n := a.tmps.size) (S0 := initS a) (ss := ss ++ List.replicate (l.length - m) (Slot.val undef)) m hlm (fun i o hi ho => (hchain i o hi ho).1) (fun i o hi ho => (hchain i o (by omega) ho).2.resolve_left (by omega)) hB hssl (by simp [initS]) (fun t s hs => ⟨_, (initS_get hs).1⟩) hafter hD hRr hRr' hA hG ?_ ?_ ?_ _ _ _ _ ?_ ?_ ?_)
  · intro i s hs
    by_cases him : i < m
    · rw [List.getElem?_append_left (by omega)] at hs
      exact (h2 i ((l.take m)[i]'(by omega)) s (by simp [hml, him]) hs).1
    · rw [List.getElem?_append_right (by omega)] at hs
      have : s = .val undef := by
        have := List.mem_of_getElem? hs
        exact List.eq_of_mem_replicate this
      exact .inl ⟨_, this⟩
  · intro i o s him ho hs
    rw [List.getElem?_append_left (by omega)] at hs
    have := (h2 i o s (by rw [List.getElem?_take_of_lt him]; exact ho) hs).2
    rwa [hpre i (by omega)]
  · rw [hpre m (Nat.le_refl _)]
    exact h3
  · simp
  · intro j hj hjl
    simp [hjl]
  · refine ⟨hC, fun _ => hD0, rfl, rfl, by simp, ?_, ?_, ?_⟩
    · intro j o hj hx
      have hjl : j < l.length := (List.getElem?_eq_some_iff.1 hj).1
      simp [hjl] at hx
    · intro j o s t hj _ _ hx
      have hjl : j < l.length := (List.getElem?_eq_some_iff.1 hj).1
      simp [hjl] at hx
    · intro t _ s hs
      rw [(initS_get hs).1]
      rfl
/-- The same, with a frame of what is at hand; new things alone are laid before the chain. -/
theorem wp_region_memN {P : Program} {l : List Oper} {a : Act} {w w0 : World} {own : Nat → Prop} {L : List Item} {Q : Exit → Act → World → Prop} {id : Nat} (m : Nat) (bigs preds keeps : List Nat) (hM : Mem w0 own w L) (hT : chainB l m = true) (hm : P.follows .mixedOrders = true) (hB : ghostB l.toArray a.tmps.size = true)
    (hA : ancB l.toArray (ancs l.toArray) = true) (hG : bigB l.toArray (ancs l.toArray) bigs preds keeps = true)
    (h : GW P l.toArray (CM w0 own L w.heap.size) Any1 Grows (GrowsB w.heap.size) bigs preds a.defers (DoneK l (CM w0 own L w.heap.size) keeps a.defers (fun a w => tailWp P Q (l.drop m) a w)) 0 (l.take m) (initS a)) : (Code.region id l.toArray true).wp P Q a w :=
  wp_region_chain m hT (C := CM w0 own L w.heap.size) (D := Any1) (R := Grows) (R' := GrowsB w.heap.size) bigs preds keeps hm hB hA hG (cm_start hM) trivial (fun _ _ _ _ _ h => h) cm_quiet.1 cm_quiet.2 h
end
section
open Go.RowKit Go.MapKept
set_option linter.unusedSimpArgs false
set_option linter.unusedVariables false
theorem take_put {α : Type} (cur ws : List α) (k N : Nat) (hk : k + ws.length ≤ N) (hN : N ≤ cur.length) : (cur.take k ++ ws ++ cur.drop (k + ws.length)).take N = (cur.take N).take k ++ ws ++ (cur.take N).drop (k + ws.length) := by
  have e1 : (cur.take N).take k = cur.take k := by rw [List.take_take, Nat.min_eq_left (by omega)]
  have e2 : (cur.take N).drop (k + ws.length) = (cur.drop (k + ws.length)).take (N - (k + ws.length)) := by rw [List.drop_take]
  rw [e1, e2, List.take_append, List.take_of_length_le (by simp; omega)]
  congr 2
  simp only [List.length_append, List.length_take]
  omega
theorem wpList_store_rowagg {P : Program} {ops : Array Oper} {rest : List Oper} {o : Oper} {a : Act} {Q : Exit → Act → World → Prop} {w0 w : World} {own : Nat → Prop} {L : List Item} (hgd : Region.wanted o (yielded ops a.tmps) = true) (ty : TypeId) (x y : Operand) (ho : o.op = .store ty x y)
    (hM : Mem w0 own w L) (i g n c size k : Nat) (e : TypeId) (xs xs' : List Value) (hi : L[i]? = some (.row (.slice (some ⟨g, 0, none⟩) n c) e size n xs)) (ws : List Value) (hk : k + ws.length ≤ xs.length) (hx : a.eval x = .pointer (some ⟨g, k, none⟩)) (hy : a.eval y = .agg ws.toArray) (h1 : ∀ u ∈ ws, u.oneCell' = true) (hs : (P.info? ty).map (·.size) = some ws.length)
    (hxs : xs.take k ++ ws ++ xs.drop (k + ws.length) = xs')
    (h : ∀ w', Mem w0 own w' (L.set i (.row (.slice (some ⟨g, 0, none⟩) n c) e size n xs')) → wpList P ops Q rest (a.put o.dst undef) w') : wpList P ops Q (o :: rest) a w :=
  BigFrame.wpList_want hgd fun _ hK => by
    have hrow := hM.row i hi
    have hxl := hrow.1
    rcases hrow.2 with ⟨e1, _⟩ | ⟨g', cap, cur, e1, hbase, hb, hnc, hcm, hcs, htk⟩
    · cases e1
    injection e1 with e2 e3 e4
    injection e2 with e2
    injection e2 with e2
    subst e2 e4
    have hN : n * size ≤ cur.toList.length := by rw [Array.length_toList, hcs]; exact Nat.mul_le_mul_right _ hnc
    obtain ⟨new, hnew⟩ : ∃ new, new = (cur.toList.take k ++ ws ++ cur.toList.drop (k + ws.length)).toArray := ⟨_, rfl⟩
    have hnl : new.size = cur.size := by
      rw [hnew]
      simp only [List.size_toArray, List.length_append, List.length_take, List.length_drop, Array.length_toList] at hN ⊢
      omega
    have hr : (storeVar ty ⟨g, k, none⟩ (.agg ws.toArray)).run P w = .ok () (w.setRow g new) := by
      have := run_storeCells_at (P := P) g k e ws 0 cur w hb (by simp at hN ⊢; omega) h1
      simp only [Nat.add_zero] at this
      rw [← hnew] at this
      cases hq : P.info? ty with
      | none => simp [hq] at hs
      | some it =>
        have hsz : ws.length = it.size := by simp [hq] at hs; omega
        simp [storeVar, sizeOf, typeInfo, hq, Value.cells, hsz, this]
    have hM' : Mem w0 own (w.setRow g new) (L.set i (.row (.slice (some ⟨g, 0, none⟩) n c) e size n xs')) :=
      hM.upd i hi (hM.grow.setRow (hM.own_ i hi rfl) new) (fun j _ hne => setRow_other w g j new (fun e => hne (by rw [e]; rfl)))
        ⟨by rw [← hxs]; simp only [List.length_append, List.length_take, List.length_drop]; omega, .inr ⟨g, c, new, rfl, hbase, setRow_heap w g cur new e (0, 0) hb, hnc, hcm, by rw [hnl, hcs], by
          rw [hnew, ← hxs, ← htk]
          exact take_put _ _ _ _ (by omega) hN⟩⟩ (fun _ e => .inl e)
    unfold Oper.wp execOp
    simp only [ho, hx, hy, Instr.storeAt, Instr.sureAddr, Sem.run_bind, Sem.run_pure, Result.andThen_ok, hr]
    exact hK _ _ (h _ hM')
end
section
open Go.RowKit Go.MapKept
set_option linter.unusedSimpArgs false
set_option linter.unusedVariables false
/-- A lock as it reads. -/
def LockP (v : Int) (x : List (BitVec 8)) (lv : List Vt) (val : Value) (w : World) : Prop :=
  ∃ A c B d, val = .agg #[.int .i64 v, .slice A x.length c, .slice B lv.length d] ∧ x.length ≤ c ∧ lv.length ≤ d ∧ Bytes w w.heap.size A x.length x ∧ Reads w w.heap.size 68 B lv.length (vCells lv)
theorem LockP.grow {v : Int} {x : List (BitVec 8)} {lv : List Vt} (val : Value) (w w' : World) (hg : Grow w noOwn w') (h : LockP v x lv val w) : LockP v x lv val w' := by
  obtain ⟨A, c, B, d, e, h1, h2, h3, h4⟩ := h
  exact ⟨A, c, B, d, e, h1, h2, bytesUp h3 hg, h4.up hg⟩
theorem rowFrom_keep {B : Nat} {e : TypeId} {size n : Nat} {xs : List Value} {v : Value} {w w' : World} (h : RowFrom B e size n xs v w) (hk : ∀ g, B ≤ g → w'.heap[g]? = w.heap[g]?) : RowFrom B e size n xs v w' := by
  refine ⟨h.1, ?_⟩
  rcases h.2 with h2 | ⟨g, cap, cur, h1, h2, h3, h4⟩
  · exact .inl h2
  · exact .inr ⟨g, cap, cur, h1, h2, (hk g h2).trans h3, h4⟩
theorem rowFrom_less {B B' : Nat} {e : TypeId} {size n : Nat} {xs : List Value} {v : Value} {w : World} (h : RowFrom B e size n xs v w) (hB : B' ≤ B) : RowFrom B' e size n xs v w := by
  refine ⟨h.1, ?_⟩
  rcases h.2 with h2 | ⟨g, cap, cur, h1, h2, h3, h4⟩
  · exact .inl h2
  · exact .inr ⟨g, cap, cur, h1, by omega, h3, h4⟩
theorem rowFrom_nil (w : World) (B : Nat) (e : TypeId) (size : Nat) : RowFrom B e size 0 [] (.slice none 0 0) w := World.ownsRow_nil w B e size
theorem rowFrom_mem {w0 w : World} {L : List Item} {v : Value} {e : TypeId} {size n : Nat} {xs : List Value} {B : Nat} (hM : Mem w0 noOwn w L) (i : Nat) (hi : L[i]? = some (.row v e size n xs)) (hB : B ≤ w0.heap.size) : RowFrom B e size n xs v w := by
  have h := hM.row i hi
  refine ⟨h.1, ?_⟩
  rcases h.2 with h2 | ⟨g, cap, cur, h1, h2, h3, h4⟩
  · exact .inl h2
  · refine .inr ⟨g, cap, cur, h1, ?_, h3, h4⟩
    rcases hM.own_ i hi (g := g) (by subst h1; rfl) with h5 | h5
    · exact h5.elim
    · omega
/-- A lock in blocks from B on. -/
def LockF (v : Int) (x : List (BitVec 8)) (lv : List Vt) (B : Nat) (val : Value) (w : World) : Prop :=
  ∃ A c A2 d, val = .agg #[.int .i64 v, .slice A x.length c, .slice A2 lv.length d] ∧ RowFrom B 5 1 x.length (x.map V8) (.slice A x.length c) w ∧ RowFrom B 32 68 lv.length (vCells lv) (.slice A2 lv.length d) w
theorem LockF.grow {v : Int} {x : List (BitVec 8)} {lv : List Vt} {B : Nat} (val : Value) (w w' : World) (hg : Grow w noOwn w') (h : LockF v x lv B val w) : LockF v x lv B val w' := by
  obtain ⟨A, c, A2, d, e, h1, h2⟩ := h
  exact ⟨A, c, A2, d, e, h1.grow hg, h2.grow hg⟩
theorem LockF.keep {v : Int} {x : List (BitVec 8)} {lv : List Vt} {B : Nat} {val : Value} {w w' : World} (h : LockF v x lv B val w) (hk : ∀ g, B ≤ g → w'.heap[g]? = w.heap[g]?) : LockF v x lv B val w' := by
  obtain ⟨A, c, A2, d, e, h1, h2⟩ := h
  exact ⟨A, c, A2, d, e, rowFrom_keep h1 hk, rowFrom_keep h2 hk⟩
theorem LockF.less {v : Int} {x : List (BitVec 8)} {lv : List Vt} {B B' : Nat} {val : Value} {w : World} (h : LockF v x lv B val w) (hB : B' ≤ B) : LockF v x lv B' val w := by
  obtain ⟨A, c, A2, d, e, h1, h2⟩ := h
  exact ⟨A, c, A2, d, e, rowFrom_less h1 hB, rowFrom_less h2 hB⟩
theorem LockF.lockP {v : Int} {x : List (BitVec 8)} {lv : List Vt} {B : Nat} {val : Value} {w : World} (h : LockF v x lv B val w) : LockP v x lv val w := by
  obtain ⟨A, c, A2, d, e, h1, h2⟩ := h
  obtain ⟨A3, c3, e3, h3, h4⟩ := h1.slice
  obtain ⟨A5, c5, e5, h5, h6⟩ := h2.slice
  injection e3 with e1 e2 e3
  injection e5 with e4 e7 e6
  subst e1 e3 e4 e6
  exact ⟨A, c, A2, d, e, h3, h5, h4, h6⟩
def ByF (n : Nat) (x : List (BitVec 8)) (B : Nat) (val : Value) (w : World) : Prop := ∃ A c, val = .slice A n c ∧ RowFrom B 5 1 n (x.map V8) (.slice A n c) w
theorem ByF.grow {n : Nat} {x : List (BitVec 8)} {B : Nat} (val : Value) (w w' : World) (hg : Grow w noOwn w') (h : ByF n x B val w) : ByF n x B val w' := by
  obtain ⟨A, c, e, h1⟩ := h
  exact ⟨A, c, e, h1.grow hg⟩
def lkX (p : Option Int) (x : List (BitVec 8)) : List (BitVec 8) := if p.isSome then x else []
def lkV (p : Option Int) (lv : List Vt) : List Vt := if p.isSome then lv else []
theorem lockF_free (w : World) (B : Nat) : LockF (-1) [] [] B (.agg #[.int .i64 (-1), .slice none 0 0, .slice none 0 0]) w := ⟨none, 0, none, 0, rfl, rowFrom_nil _ _ _ _, rowFrom_nil _ _ _ _⟩
def Lock (v : Int) (x : List (BitVec 8)) (lv : List Vt) (w : World) (e : Ending) (w' : World) : Prop := ∃ val, e = .returned val ∧ LockF v x lv w.heap.size val w' ∧ Grow w noOwn w'
theorem one3 {v : Int} {A B : Option Addr} {n c m d : Nat} : ∀ u ∈ [Value.int .i64 v, .slice A n c, .slice B m d], u.oneCell' = true := One.out
theorem all3 {v : Int} {A B : Option Addr} {n c m d : Nat} : (#[Value.int .i64 v, .slice A n c, .slice B m d] : Array Value).all (·.oneCell') = true := all_oneCell_toArray one3
section
variable {P : Program} {T0 : List Value} {d0 : List Deferred} {o : Oper} {w w0 : World} {own : Nat → Prop} {L L' : List Item} {Q : Exit → Act → World → Prop}
/-- A whole block is stored, at a region's end; the others are as they were. -/
theorem wp_staG {K : Act → World → Prop} {T : TypeId} {x y : Operand} (ho : o.op = .store T x y) (hM : Mem w0 own w L) {g : Nat} (hx : ev T0 x = some (.pointer (some ⟨g, 0, none⟩))) {cs : Array Value} (hy : ev T0 y = some (.agg cs)) (h1 : cs.all (·.oneCell') = true) {n : Nat} (hs : TyS P T n) (hn : SzA cs n) (hp : PutAll L g n cs L')
    (h : ∀ w', Mem w0 own w' L' → (∀ i, i ≠ g → w'.heap[i]? = w.heap[i]?) → w'.heap.size = w.heap.size → K ⟨(putT T0 o.dst undef).toArray, d0⟩ w') : o.wp P ⟨T0.toArray, d0⟩ w K Q := by
  obtain ⟨i, t, old, hi, hsz, rfl⟩ := hp.out
  refine wp_store_row T x y ho g cs (ev_of hx) (ev_of hy) t old (hM.blk i hi) (by rw [hs.out, hn.out]) (by rw [hsz, hn.out]) h1 ?_
  rw [put_of]
  exact h _ (hM.setRow i hi cs) (fun j hj => setRow_other w g j cs hj) (by simp)
end
section
variable {P : Program} {l : List Oper} {T0 : List Value} {d0 : List Deferred} {rest : List Oper} {o : Oper} {w w0 : World} {own : Nat → Prop} {L L' : List Item} {Q : Exit → Act → World → Prop}
theorem wl_staG {T : TypeId} {x y : Operand} (ho : o.op = .store T x y) (hM : Mem w0 own w L) (hgd : wantB l T0 o.guard = some true) {g : Nat} (hx : ev T0 x = some (.pointer (some ⟨g, 0, none⟩))) {cs : Array Value} (hy : ev T0 y = some (.agg cs)) (h1 : cs.all (·.oneCell') = true) {n : Nat} (hs : TyS P T n) (hn : SzA cs n) (hp : PutAll L g n cs L')
    (h : ∀ w', Mem w0 own w' L' → (∀ i, i ≠ g → w'.heap[i]? = w.heap[i]?) → w'.heap.size = w.heap.size → wpList P l.toArray Q rest ⟨(putT T0 o.dst undef).toArray, d0⟩ w') : wpList P l.toArray Q (o :: rest) ⟨T0.toArray, d0⟩ w :=
  BigFrame.wpList_want (want_of hgd) fun K hK => wp_staG ho hM hx hy h1 hs hn hp (fun w' h2 h3 h4 => hK _ _ (h w' h2 h3 h4))
end
attribute [local irreducible] wpList Code.wp GW Calls
set_option maxRecDepth 100000 in
set_option maxHeartbeats 4000000 in
theorem Proved_any (w : World) (g c kc lc : Nat) (A KA LA : Option Addr) (ks : List (List (BitVec 8))) (lv : List Vt) (slot below kv : Int) (kx : List (BitVec 8)) (h : RingIs w g A c 56 ks) (hkx : Bytes w w.heap.size KA kx.length kx) (hl : Reads w w.heap.size 68 LA lv.length (vCells lv)) (hkc : kx.length ≤ kc) (hcap : lv.length ≤ lc) (hok : ∀ v ∈ lv, v.Ok) (hk10 : ks.length ≤ 1000) (hvn : kx.length ≤ 100000) (hln : lv.length ≤ 100000) :
    Calls Try.prog 33 #[.pointer (some ⟨g, 0, none⟩), .int .i64 slot, .int .i64 below, .agg #[.int .i64 kv, .slice KA kx.length kc, .slice LA lv.length lc]] w (Lock (pvI (provesOf ks lv slot below kx)) (lkX (provesOf ks lv slot below kx) kx) (lkV (provesOf ks lv slot below kx) lv) w) := by
  have hM := Mem.nil w noOwn
  obtain ⟨kn, hkn⟩ : ∃ kn, kn = kx.length := ⟨_, rfl⟩
  obtain ⟨ln, hln2⟩ : ∃ ln, ln = lv.length := ⟨_, rfl⟩
  obtain ⟨pr, hpr⟩ : ∃ pr, pr = provesOf ks lv slot below kx := ⟨_, rfl⟩
  have hvc := vCells_len _ hok
  rw [← hln2] at hl hcap hln hvc ⊢
  rw [← hkn] at hkx hkc hvn ⊢
  rw [← hpr]
  have rb : RdsB w noOwn KA kn kx := rdsB_no hkx
  have rv : Rds w noOwn LA ln 68 (vCells lv) := rds_no hl
  rcases pr with _ | v
  · have HP : Hid (pvT (provesOf ks lv slot below kx) = #[.int .i64 (-1), .bool false]) := hide (by rw [← hpr]; rfl)
    have HKN := hide hkn
    have HLN := hide hln2
    clear hkn hln2 hpr
    go_enter Try.func33, Try.ntmps33
    go_wp2_with (first
      | ((with_reducible refine wl_shape ?_); first | (apply wl_boxa; exact rfl; exact hM; exact rfl; exact rfl; clear hM; intro gg ww hM; simp only [putT, List.set_cons_succ, List.set_cons_zero]) | (apply wl_box1; exact rfl; exact hM; exact rfl; exact rfl; exact rfl; clear hM; intro gg ww hM; simp only [putT, List.set_cons_succ, List.set_cons_zero]) | (apply wl_alloc; exact rfl; exact hM; exact rfl; exact inferInstance; clear hM; intro gg ww hM; simp only [putT, List.set_cons_succ, List.set_cons_zero]) | (apply wl_ld; exact rfl; exact hM; exact rfl; exact rfl; exact inferInstance; exact inferInstance; simp only [putT, List.set_cons_succ, List.set_cons_zero]) | (apply wl_lda; exact rfl; exact hM; exact rfl; exact rfl; exact inferInstance; exact inferInstance; exact inferInstance; exact inferInstance; simp only [putT, List.set_cons_succ, List.set_cons_zero]) | (apply wl_ldr; exact rfl; exact hM; exact rfl; exact rfl; exact inferInstance; exact inferInstance; exact inferInstance; exact inferInstance; simp only [putT, List.set_cons_succ, List.set_cons_zero]) | (apply wl_st; exact rfl; exact hM; exact rfl; exact rfl; exact rfl; exact rfl; exact inferInstance; exact inferInstance; clear hM; intro ww hM; simp only [putT, List.set_cons_succ, List.set_cons_zero]) | (apply wl_sta; exact rfl; exact hM; exact rfl; exact rfl; exact rfl; exact all_oneCell_toArray One.out; exact inferInstance; exact inferInstance; exact inferInstance; clear hM; intro ww hM; simp only [putT, List.set_cons_succ, List.set_cons_zero]) | (apply wl_bs0; exact rfl; exact hM; exact rfl; exact inferInstance; clear hM; intro gg ww hM; simp only [putT, List.set_cons_succ, List.set_cons_zero]) | (apply wl_bs1a; exact rfl; exact hM; exact rfl; exact inferInstance; exact rfl; exact inferInstance; clear hM; intro gg ww hM; simp only [putT, List.set_cons_succ, List.set_cons_zero]) | (apply wl_bs11; exact rfl; exact hM; exact rfl; exact inferInstance; exact rfl; exact rfl; clear hM; intro gg ww hM; simp only [putT, List.set_cons_succ, List.set_cons_zero]) | (apply wl_conv; exact rfl; exact hM; exact rfl; exact rfl; exact inferInstance; exact inferInstance; simp only [putT, List.set_cons_succ, List.set_cons_zero]))
      | (go_at_call 13; refine (Proves_any _ g c ln lc kn kc A LA KA ks lv slot below kx (h.grow hM.grow) (hl.up hM.grow) (unhide HLN).symm hcap hok hk10 (bytesUp hkx hM.grow) hkc (by omega)).mono ?_; rw [unhide HP]; rintro e1 w1 ⟨rfl, hg⟩; replace hM := hM.call hg; clear hg)
      | (go_at_call 16; refine (Free_any _).mono ?_; rintro e1 w1 ⟨rfl, hg⟩; replace hM := hM.call hg; clear hg))
    exact bodyPost_row rfl rfl _ _ _ (hM.blk 0 rfl) rfl _ Try.underlying40 rfl (by kernel_rfl) ⟨_, rfl, lockF_free _ _, hM.grow⟩
  · have HP : Hid (pvT (provesOf ks lv slot below kx) = #[.int .i64 v, .bool true]) := hide (by rw [← hpr]; rfl)
    have HKN := hide hkn
    have HLN := hide hln2
    clear hkn hln2 hpr
    go_enter Try.func33, Try.ntmps33
    go_wp2_with (first
      | ((with_reducible refine wl_shape ?_); first | (apply wl_boxa; exact rfl; exact hM; exact rfl; exact rfl; clear hM; intro gg ww hM; simp only [putT, List.set_cons_succ, List.set_cons_zero]) | (apply wl_box1; exact rfl; exact hM; exact rfl; exact rfl; exact rfl; clear hM; intro gg ww hM; simp only [putT, List.set_cons_succ, List.set_cons_zero]) | (apply wl_alloc; exact rfl; exact hM; exact rfl; exact inferInstance; clear hM; intro gg ww hM; simp only [putT, List.set_cons_succ, List.set_cons_zero]) | (apply wl_ld; exact rfl; exact hM; exact rfl; exact rfl; exact inferInstance; exact inferInstance; simp only [putT, List.set_cons_succ, List.set_cons_zero]) | (apply wl_lda; exact rfl; exact hM; exact rfl; exact rfl; exact inferInstance; exact inferInstance; exact inferInstance; exact inferInstance; simp only [putT, List.set_cons_succ, List.set_cons_zero]) | (apply wl_ldr; exact rfl; exact hM; exact rfl; exact rfl; exact inferInstance; exact inferInstance; exact inferInstance; exact inferInstance; simp only [putT, List.set_cons_succ, List.set_cons_zero]) | (apply wl_st; exact rfl; exact hM; exact rfl; exact rfl; exact rfl; exact rfl; exact inferInstance; exact inferInstance; clear hM; intro ww hM; simp only [putT, List.set_cons_succ, List.set_cons_zero]) | (apply wl_sta; exact rfl; exact hM; exact rfl; exact rfl; exact rfl; exact all_oneCell_toArray One.out; exact inferInstance; exact inferInstance; exact inferInstance; clear hM; intro ww hM; simp only [putT, List.set_cons_succ, List.set_cons_zero]) | (apply wl_bs0; exact rfl; exact hM; exact rfl; exact inferInstance; clear hM; intro gg ww hM; simp only [putT, List.set_cons_succ, List.set_cons_zero]) | (apply wl_bs1a; exact rfl; exact hM; exact rfl; exact inferInstance; exact rfl; exact inferInstance; clear hM; intro gg ww hM; simp only [putT, List.set_cons_succ, List.set_cons_zero]) | (apply wl_bs11; exact rfl; exact hM; exact rfl; exact inferInstance; exact rfl; exact rfl; clear hM; intro gg ww hM; simp only [putT, List.set_cons_succ, List.set_cons_zero]) | (apply wl_conv; exact rfl; exact hM; exact rfl; exact rfl; exact inferInstance; exact inferInstance; simp only [putT, List.set_cons_succ, List.set_cons_zero]))
      | (go_at_call 13; refine (Proves_any _ g c ln lc kn kc A LA KA ks lv slot below kx (h.grow hM.grow) (hl.up hM.grow) (unhide HLN).symm hcap hok hk10 (bytesUp hkx hM.grow) hkc (by omega)).mono ?_; rw [unhide HP]; rintro e1 w1 ⟨rfl, hg⟩; replace hM := hM.call hg; clear hg))
    refine wp_region_memN 9 [] [3, 4, 7, 8] [8] hM (by kernel_rfl) (by kernel_rfl) (by kernel_rfl) (by kernel_rfl) (by kernel_rfl) ?_; simp only [List.take_succ_cons, List.take_zero]; simp only [initS, Act.put, List.setIfInBounds_toArray, List.set_cons_succ, List.set_cons_zero, List.map_cons, List.map_nil]
    (repeat (first
      | (apply gl_move; (first | exact .inl rfl | exact .inr rfl); exact rfl; exact rfl; simp only [setD, List.set_cons_succ, List.set_cons_zero]) | (apply gl_ld; exact rfl; exact rfl; exact rfl; exact inferInstance; exact inferInstance; simp only [setD, List.set_cons_succ, List.set_cons_zero]) | (apply gl_row00; exact rfl; exact rfl; exact inferInstance; exact rfl; exact rfl; simp only [setD, List.set_cons_succ, List.set_cons_zero]) | (apply gl_appv0; exact rfl; exact rfl; exact rfl; exact rfl; exact inferInstance; exact rfl; exact rfl; exact inferInstance; (unfold maxLen; omega); omega; simp only [setD, List.set_cons_succ, List.set_cons_zero])
      | (refine gl_wpF (ByF kn kx) ByF.grow rfl (by decide) (by decide) rfl (by simp) (fun γ w' hC hP => ?_) ?_; (focus (simp only [slAct, slVals, Slot.get]; go_wp2_with (first | (go_at_call 47; refine (Clone_any (Mem.nil w' noOwn) (unhide HKN).symm (by omega) (fun w2 h2 => bytesUp hkx (hC.1.grow.trans h2.grow (fun _ _ e => e.elim)))).mono ?_; rintro e1 w1 ⟨A1, c1, rfl, hM1⟩)); exact ⟨hM1.grow, A1, c1, rfl, rowFrom_mem hM1 0 rfl hC.2.1⟩)); simp only [setD, List.set_cons_succ, List.set_cons_zero])
      | (refine gl_wpF (LockF v kx lv) LockF.grow rfl (by decide) (by decide) rfl (by simp) (fun γ w' hC hP => ?_) ?_; (focus (simp only [slAct, slVals, Slot.get]; obtain ⟨A5, c5, e5, hb5⟩ := hP 28 _ rfl rfl; have hb6 := hP 32 _ rfl rfl; obtain ⟨A6, c6, e6, hc6, _⟩ := RowFrom.slice hb6; rw [e6] at hb6; rw [e5, e6]; go_wp2_with (first | (refine wpList_build_to rfl 40 _ rfl #[.int .i64 v, .slice A5 kn c5, .slice A6 ln c6] (by kernel_rfl) ?_)); exact ⟨Grow.refl _ _, A5, c5, A6, c6, by rw [← unhide HLN, ← unhide HKN], by rw [← unhide HKN]; exact hb5, by rw [← unhide HLN]; exact hb6⟩)); simp only [setD, List.set_cons_succ, List.set_cons_zero])
      | (apply gl_move; (first | exact .inl rfl | exact .inr rfl); exact rfl; exact rfl; simp only [setD, List.set_cons_succ, List.set_cons_zero]) | (apply gl_ld; exact rfl; exact rfl; exact rfl; exact inferInstance; exact inferInstance; simp only [setD, List.set_cons_succ, List.set_cons_zero]) | (apply gl_lda; exact rfl; exact rfl; exact rfl; exact inferInstance; exact inferInstance; exact inferInstance; exact inferInstance; simp only [setD, List.set_cons_succ, List.set_cons_zero]) | (apply gl_ldr; exact rfl; exact rfl; exact rfl; exact inferInstance; exact inferInstance; exact inferInstance; exact inferInstance; simp only [setD, List.set_cons_succ, List.set_cons_zero]) | (apply gl_cmp true; exact rfl; exact rfl; exact rfl; exact rfl; (simp only [cmpB, Option.some.injEq, decide_eq_true_eq, ne_eq]; omega); simp only [setD, List.set_cons_succ, List.set_cons_zero]) | (apply gl_cmp false; exact rfl; exact rfl; exact rfl; exact rfl; (simp only [cmpB, Option.some.injEq, decide_eq_false_iff_not, ne_eq]; omega); simp only [setD, List.set_cons_succ, List.set_cons_zero]) | (apply gl_pick; exact rfl; exact rfl; exact rfl; exact rfl; exact rfl; simp only [setD, List.set_cons_succ, List.set_cons_zero, cond_true, cond_false]) | (apply gl_conv; exact rfl; exact rfl; exact rfl; exact inferInstance; exact inferInstance; simp only [setD, List.set_cons_succ, List.set_cons_zero]) | (apply gl_skip; exact rfl; simp only [setD, List.set_cons_succ, List.set_cons_zero]) | (apply gl_moveP; (first | exact .inl rfl | exact .inr rfl); exact rfl; exact rfl; exact rfl; (first | exact FRow.grow | exact FBlk.grow | exact FAgg.grow); simp only [setD, List.set_cons_succ, List.set_cons_zero]) | (refine gw_isPure rfl ?_; apply gl_pure; exact rfl; intro K hK; go_simp; refine hK _ ?_; clear hK K; simp only [setD, List.set_cons_succ, List.set_cons_zero])))
    refine gw_nil ?_; intro γ w6 hC' hk'; simp only [slAct, slVals, Slot.get]
    have hL6 := hk' 8 33 _ rfl rfl rfl
    obtain ⟨A5, c5, A6, c6, e5, -, -⟩ := id hL6
    rw [e5] at hL6
    simp only [e5, List.drop_succ_cons, List.drop_zero, tailWp]
    have hB6 := hC'.2.1
    have hl6 := hM.lt 0 rfl rfl
    have hg6 := hM.grow.size
    refine wp_staG rfl hC'.1 rfl rfl all3 inferInstance inferInstance inferInstance ?_
    clear hM hC' hk' e5
    simp only [putT]
    intro w7 hM hsame hsz
    go_wp2_with fail
    exact bodyPost_row rfl rfl _ _ _ (hM.blk 0 rfl) rfl _ Try.underlying40 rfl (by kernel_rfl) ⟨_, rfl, LockF.less (hL6.keep fun i hi => hsame i (by omega)) hg6, hM.grow⟩
end
section
open Go.RowKit Go.MapKept
set_option linter.unusedSimpArgs false
set_option linter.unusedVariables false
def hiV (p q : Option Int) : Int := if pvI p < pvI q then pvI q else pvI p
def hiX (p q : Option Int) (x y : List (BitVec 8)) : List (BitVec 8) := if pvI p < pvI q then lkX q y else lkX p x
def hiL (p q : Option Int) (x y : List Vt) : List Vt := if pvI p < pvI q then lkV q y else lkV p x
theorem proves_ge (ks : List (List (BitVec 8))) (lv : List Vt) (slot below : Int) (val : List (BitVec 8)) (v : Int) (h : provesOf ks lv slot below val = some v) : 0 ≤ v := by
  cases lv with
  | nil => cases h
  | cons u lr =>
    rw [proves_cons] at h
    split at h
    · rename_i h1
      injection h with h
      omega
    · cases h
/-- What a call hands back is a lock that reads so. -/
def LockR (v : Int) (x : List (BitVec 8)) (lv : List Vt) (w : World) (e : Ending) (w' : World) : Prop := ∃ val, e = .returned val ∧ LockP v x lv val w' ∧ Grow w noOwn w'
attribute [local irreducible] wpList Code.wp GW Calls
set_option maxRecDepth 100000 in
set_option maxHeartbeats 4000000 in
theorem Higher_any (w : World) (g c ka la kb lb : Nat) (A KA LA KB LB : Option Addr) (ks : List (List (BitVec 8))) (va vb : List Vt) (slot below av bv : Int) (xa xb : List (BitVec 8)) (h : RingIs w g A c 56 ks) (hk10 : ks.length ≤ 1000)
    (hxa : Bytes w w.heap.size KA xa.length xa) (hla : Reads w w.heap.size 68 LA va.length (vCells va)) (hka : xa.length ≤ ka) (hca : va.length ≤ la) (hoka : ∀ v ∈ va, v.Ok) (hna : xa.length ≤ 100000) (hma : va.length ≤ 100000)
    (hxb : Bytes w w.heap.size KB xb.length xb) (hlb : Reads w w.heap.size 68 LB vb.length (vCells vb)) (hkb : xb.length ≤ kb) (hcb : vb.length ≤ lb) (hokb : ∀ v ∈ vb, v.Ok) (hnb : xb.length ≤ 100000) (hmb : vb.length ≤ 100000) :
    Calls Try.prog 17 #[.pointer (some ⟨g, 0, none⟩), .int .i64 slot, .int .i64 below, .agg #[.int .i64 av, .slice KA xa.length ka, .slice LA va.length la], .agg #[.int .i64 bv, .slice KB xb.length kb, .slice LB vb.length lb]] w
      (LockR (hiV (provesOf ks va slot below xa) (provesOf ks vb slot below xb)) (hiX (provesOf ks va slot below xa) (provesOf ks vb slot below xb) xa xb) (hiL (provesOf ks va slot below xa) (provesOf ks vb slot below xb) va vb) w) := by
  have hM := Mem.nil w noOwn
  obtain ⟨p, hp⟩ : ∃ p, p = provesOf ks va slot below xa := ⟨_, rfl⟩
  obtain ⟨q, hq⟩ : ∃ q, q = provesOf ks vb slot below xb := ⟨_, rfl⟩
  rw [← hp, ← hq]
  obtain ⟨pv, hpv⟩ : ∃ pv, pv = pvI p := ⟨_, rfl⟩
  obtain ⟨qv, hqv⟩ : ∃ qv, qv = pvI q := ⟨_, rfl⟩
  have hc1 := fun w' (hg : Grow w noOwn w') => Proved_any w' g c ka la A KA LA ks va slot below av xa (h.grow hg) (bytesUp hxa hg) (hla.up hg) hka hca hoka hk10 hna hma
  have hc2 := fun w' (hg : Grow w noOwn w') => Proved_any w' g c kb lb A KB LB ks vb slot below bv xb (h.grow hg) (bytesUp hxb hg) (hlb.up hg) hkb hcb hokb hk10 hnb hmb
  rw [← hp, ← hpv] at hc1
  rw [← hq, ← hqv] at hc2
  unfold hiV hiX hiL
  rw [← hpv, ← hqv]
  have HC1 := hide hc1
  have HC2 := hide hc2
  clear hc1 hc2 hpv hqv hp hq
  obtain ⟨x1, hx1⟩ : ∃ x1, x1 = lkX p xa := ⟨_, rfl⟩
  obtain ⟨x2, hx2⟩ : ∃ x2, x2 = lkX q xb := ⟨_, rfl⟩
  obtain ⟨l1, hl1⟩ : ∃ l1, l1 = lkV p va := ⟨_, rfl⟩
  obtain ⟨l2, hl2⟩ : ∃ l2, l2 = lkV q vb := ⟨_, rfl⟩
  rw [← hx1, ← hl1] at HC1 ⊢
  rw [← hx2, ← hl2] at HC2 ⊢
  clear hx1 hx2 hl1 hl2
  by_cases hlt : pv < qv
  · rw [if_pos hlt, if_pos hlt, if_pos hlt]
    go_enter Try.func17, Try.ntmps17
    go_wp2_with (first | ((with_reducible refine wl_shape ?_); first | (apply wl_boxa; exact rfl; exact hM; exact rfl; exact rfl; clear hM; intro gg ww hM; simp only [putT, List.set_cons_succ, List.set_cons_zero]) | (apply wl_box1; exact rfl; exact hM; exact rfl; exact rfl; exact rfl; clear hM; intro gg ww hM; simp only [putT, List.set_cons_succ, List.set_cons_zero]) | (apply wl_alloc; exact rfl; exact hM; exact rfl; exact inferInstance; clear hM; intro gg ww hM; simp only [putT, List.set_cons_succ, List.set_cons_zero]) | (apply wl_ld; exact rfl; exact hM; exact rfl; exact rfl; exact inferInstance; exact inferInstance; simp only [putT, List.set_cons_succ, List.set_cons_zero]) | (apply wl_lda; exact rfl; exact hM; exact rfl; exact rfl; exact inferInstance; exact inferInstance; exact inferInstance; exact inferInstance; simp only [putT, List.set_cons_succ, List.set_cons_zero]) | (apply wl_ldr; exact rfl; exact hM; exact rfl; exact rfl; exact inferInstance; exact inferInstance; exact inferInstance; exact inferInstance; simp only [putT, List.set_cons_succ, List.set_cons_zero]) | (apply wl_st; exact rfl; exact hM; exact rfl; exact rfl; exact rfl; exact rfl; exact inferInstance; exact inferInstance; clear hM; intro ww hM; simp only [putT, List.set_cons_succ, List.set_cons_zero]) | (apply wl_sta; exact rfl; exact hM; exact rfl; exact rfl; exact rfl; exact all_oneCell_toArray One.out; exact inferInstance; exact inferInstance; exact inferInstance; clear hM; intro ww hM; simp only [putT, List.set_cons_succ, List.set_cons_zero]) | (apply wl_bs0; exact rfl; exact hM; exact rfl; exact inferInstance; clear hM; intro gg ww hM; simp only [putT, List.set_cons_succ, List.set_cons_zero]) | (apply wl_bs1a; exact rfl; exact hM; exact rfl; exact inferInstance; exact rfl; exact inferInstance; clear hM; intro gg ww hM; simp only [putT, List.set_cons_succ, List.set_cons_zero]) | (apply wl_bs11; exact rfl; exact hM; exact rfl; exact inferInstance; exact rfl; exact rfl; clear hM; intro gg ww hM; simp only [putT, List.set_cons_succ, List.set_cons_zero]) | (apply wl_conv; exact rfl; exact hM; exact rfl; exact rfl; exact inferInstance; exact inferInstance; simp only [putT, List.set_cons_succ, List.set_cons_zero])))
    refine wp_region_memN 10 [] [4, 9] [4, 9] hM (by kernel_rfl) (by kernel_rfl) (by kernel_rfl) (by kernel_rfl) (by kernel_rfl) ?_; simp only [List.take_succ_cons, List.take_zero]; simp only [initS, Act.put, List.setIfInBounds_toArray, List.set_cons_succ, List.set_cons_zero, List.map_cons, List.map_nil]
    (repeat (first
      | (apply gl_move; (first | exact .inl rfl | exact .inr rfl); exact rfl; exact rfl; simp only [setD, List.set_cons_succ, List.set_cons_zero]) | (apply gl_lda; exact rfl; exact rfl; exact rfl; exact inferInstance; exact inferInstance; exact inferInstance; exact inferInstance; simp only [setD, List.set_cons_succ, List.set_cons_zero])
      | (refine gw_at 4 ?_; (refine gl_wpF (LockF pv x1 l1) LockF.grow rfl (by decide) (by decide) rfl (by simp) (fun γ w' hC hP => ?_) ?_; (focus (simp only [slAct, slVals, Slot.get]; go_wp2_with (first | (go_at_call 33; refine (unhide HC1 w' hC.1.grow).mono ?_; rintro e1 w1 ⟨val, rfl, hv, hg⟩)); (first | exact ⟨hg, LockF.less hv hC.2.1⟩ | exact LockF.less hv hC.2.1))); simp only [setD, List.set_cons_succ, List.set_cons_zero]))
      | (refine gw_at 9 ?_; (refine gl_wpF (LockF qv x2 l2) LockF.grow rfl (by decide) (by decide) rfl (by simp) (fun γ w' hC hP => ?_) ?_; (focus (simp only [slAct, slVals, Slot.get]; go_wp2_with (first | (go_at_call 33; refine (unhide HC2 w' hC.1.grow).mono ?_; rintro e1 w1 ⟨val, rfl, hv, hg⟩)); (first | exact ⟨hg, LockF.less hv hC.2.1⟩ | exact LockF.less hv hC.2.1))); simp only [setD, List.set_cons_succ, List.set_cons_zero]))
      | (apply gl_move; (first | exact .inl rfl | exact .inr rfl); exact rfl; exact rfl; simp only [setD, List.set_cons_succ, List.set_cons_zero]) | (apply gl_ld; exact rfl; exact rfl; exact rfl; exact inferInstance; exact inferInstance; simp only [setD, List.set_cons_succ, List.set_cons_zero]) | (apply gl_lda; exact rfl; exact rfl; exact rfl; exact inferInstance; exact inferInstance; exact inferInstance; exact inferInstance; simp only [setD, List.set_cons_succ, List.set_cons_zero]) | (apply gl_ldr; exact rfl; exact rfl; exact rfl; exact inferInstance; exact inferInstance; exact inferInstance; exact inferInstance; simp only [setD, List.set_cons_succ, List.set_cons_zero]) | (apply gl_cmp true; exact rfl; exact rfl; exact rfl; exact rfl; (simp only [cmpB, Option.some.injEq, decide_eq_true_eq, ne_eq]; omega); simp only [setD, List.set_cons_succ, List.set_cons_zero]) | (apply gl_cmp false; exact rfl; exact rfl; exact rfl; exact rfl; (simp only [cmpB, Option.some.injEq, decide_eq_false_iff_not, ne_eq]; omega); simp only [setD, List.set_cons_succ, List.set_cons_zero]) | (apply gl_pick; exact rfl; exact rfl; exact rfl; exact rfl; exact rfl; simp only [setD, List.set_cons_succ, List.set_cons_zero, cond_true, cond_false]) | (apply gl_conv; exact rfl; exact rfl; exact rfl; exact inferInstance; exact inferInstance; simp only [setD, List.set_cons_succ, List.set_cons_zero]) | (apply gl_skip; exact rfl; simp only [setD, List.set_cons_succ, List.set_cons_zero]) | (apply gl_moveP; (first | exact .inl rfl | exact .inr rfl); exact rfl; exact rfl; exact rfl; (first | exact FRow.grow | exact FBlk.grow | exact FAgg.grow); simp only [setD, List.set_cons_succ, List.set_cons_zero]) | (refine gw_isPure rfl ?_; apply gl_pure; exact rfl; intro K hK; go_simp; refine hK _ ?_; clear hK K; simp only [setD, List.set_cons_succ, List.set_cons_zero])))
    refine gw_nil ?_; intro γ w6 hC' hk'; simp only [slAct, slVals, Slot.get]
    have hL1 := hk' 4 15 _ rfl rfl rfl
    have hL2 := hk' 9 20 _ rfl rfl rfl
    obtain ⟨A5, c5, A6, c6, e5, -, -⟩ := id hL1
    obtain ⟨A7, c7, A8, c8, e6, -, -⟩ := id hL2
    rw [e5] at hL1
    rw [e6] at hL2
    simp only [e5, e6, List.drop_succ_cons, List.drop_zero, tailWp]
    have hB6 := hC'.2.1
    have hl5 := hM.lt 2 rfl rfl
    have hl6 := hM.lt 1 rfl rfl
    have hl4 := hM.lt 0 rfl rfl
    have hg6 := hM.grow.size
    refine wp_staG rfl hC'.1 rfl rfl all3 inferInstance inferInstance inferInstance ?_
    clear hM hC' hk' e5 e6
    simp only [putT]
    intro w7 hM hsame hsz
    refine wp_staG rfl hM rfl rfl all3 inferInstance inferInstance inferInstance ?_
    clear hM
    simp only [putT]
    intro w8 hM hsame8 hsz8
    have hP1 := (hL1.keep fun i hi => (hsame8 i (by omega)).trans (hsame i (by omega)))
    have hP2 := (hL2.keep fun i hi => (hsame8 i (by omega)).trans (hsame i (by omega)))
    clear hL1 hL2 hsame hsame8
    have HP1 := hide hP1
    have HP2 := hide hP2
    clear hP1 hP2
    have hg8 := hM.grow
    go_wp2_with (first | (apply wl_staG; exact rfl; exact hM; exact rfl; exact rfl; exact rfl; exact all3; exact inferInstance; exact inferInstance; exact inferInstance; clear hM; intro w9 hM hsame9 hsz9; simp only [putT, List.set_cons_succ, List.set_cons_zero]) | ((with_reducible refine wl_shape ?_); first | (apply wl_boxa; exact rfl; exact hM; exact rfl; exact rfl; clear hM; intro gg ww hM; simp only [putT, List.set_cons_succ, List.set_cons_zero]) | (apply wl_box1; exact rfl; exact hM; exact rfl; exact rfl; exact rfl; clear hM; intro gg ww hM; simp only [putT, List.set_cons_succ, List.set_cons_zero]) | (apply wl_alloc; exact rfl; exact hM; exact rfl; exact inferInstance; clear hM; intro gg ww hM; simp only [putT, List.set_cons_succ, List.set_cons_zero]) | (apply wl_ld; exact rfl; exact hM; exact rfl; exact rfl; exact inferInstance; exact inferInstance; simp only [putT, List.set_cons_succ, List.set_cons_zero]) | (apply wl_lda; exact rfl; exact hM; exact rfl; exact rfl; exact inferInstance; exact inferInstance; exact inferInstance; exact inferInstance; simp only [putT, List.set_cons_succ, List.set_cons_zero]) | (apply wl_ldr; exact rfl; exact hM; exact rfl; exact rfl; exact inferInstance; exact inferInstance; exact inferInstance; exact inferInstance; simp only [putT, List.set_cons_succ, List.set_cons_zero]) | (apply wl_st; exact rfl; exact hM; exact rfl; exact rfl; exact rfl; exact rfl; exact inferInstance; exact inferInstance; clear hM; intro ww hM; simp only [putT, List.set_cons_succ, List.set_cons_zero]) | (apply wl_sta; exact rfl; exact hM; exact rfl; exact rfl; exact rfl; exact all_oneCell_toArray One.out; exact inferInstance; exact inferInstance; exact inferInstance; clear hM; intro ww hM; simp only [putT, List.set_cons_succ, List.set_cons_zero]) | (apply wl_bs0; exact rfl; exact hM; exact rfl; exact inferInstance; clear hM; intro gg ww hM; simp only [putT, List.set_cons_succ, List.set_cons_zero]) | (apply wl_bs1a; exact rfl; exact hM; exact rfl; exact inferInstance; exact rfl; exact inferInstance; clear hM; intro gg ww hM; simp only [putT, List.set_cons_succ, List.set_cons_zero]) | (apply wl_bs11; exact rfl; exact hM; exact rfl; exact inferInstance; exact rfl; exact rfl; clear hM; intro gg ww hM; simp only [putT, List.set_cons_succ, List.set_cons_zero]) | (apply wl_conv; exact rfl; exact hM; exact rfl; exact rfl; exact inferInstance; exact inferInstance; simp only [putT, List.set_cons_succ, List.set_cons_zero])))
    exact bodyPost_row rfl rfl _ _ _ (hM.blk 0 rfl) rfl _ Try.underlying40 rfl (by kernel_rfl) ⟨_, rfl, ((unhide HP2).keep fun i hi => hsame9 i (by omega)).lockP, hM.grow⟩
  · rw [if_neg hlt, if_neg hlt, if_neg hlt]
    go_enter Try.func17, Try.ntmps17
    go_wp2_with (first | ((with_reducible refine wl_shape ?_); first | (apply wl_boxa; exact rfl; exact hM; exact rfl; exact rfl; clear hM; intro gg ww hM; simp only [putT, List.set_cons_succ, List.set_cons_zero]) | (apply wl_box1; exact rfl; exact hM; exact rfl; exact rfl; exact rfl; clear hM; intro gg ww hM; simp only [putT, List.set_cons_succ, List.set_cons_zero]) | (apply wl_alloc; exact rfl; exact hM; exact rfl; exact inferInstance; clear hM; intro gg ww hM; simp only [putT, List.set_cons_succ, List.set_cons_zero]) | (apply wl_ld; exact rfl; exact hM; exact rfl; exact rfl; exact inferInstance; exact inferInstance; simp only [putT, List.set_cons_succ, List.set_cons_zero]) | (apply wl_lda; exact rfl; exact hM; exact rfl; exact rfl; exact inferInstance; exact inferInstance; exact inferInstance; exact inferInstance; simp only [putT, List.set_cons_succ, List.set_cons_zero]) | (apply wl_ldr; exact rfl; exact hM; exact rfl; exact rfl; exact inferInstance; exact inferInstance; exact inferInstance; exact inferInstance; simp only [putT, List.set_cons_succ, List.set_cons_zero]) | (apply wl_st; exact rfl; exact hM; exact rfl; exact rfl; exact rfl; exact rfl; exact inferInstance; exact inferInstance; clear hM; intro ww hM; simp only [putT, List.set_cons_succ, List.set_cons_zero]) | (apply wl_sta; exact rfl; exact hM; exact rfl; exact rfl; exact rfl; exact all_oneCell_toArray One.out; exact inferInstance; exact inferInstance; exact inferInstance; clear hM; intro ww hM; simp only [putT, List.set_cons_succ, List.set_cons_zero]) | (apply wl_bs0; exact rfl; exact hM; exact rfl; exact inferInstance; clear hM; intro gg ww hM; simp only [putT, List.set_cons_succ, List.set_cons_zero]) | (apply wl_bs1a; exact rfl; exact hM; exact rfl; exact inferInstance; exact rfl; exact inferInstance; clear hM; intro gg ww hM; simp only [putT, List.set_cons_succ, List.set_cons_zero]) | (apply wl_bs11; exact rfl; exact hM; exact rfl; exact inferInstance; exact rfl; exact rfl; clear hM; intro gg ww hM; simp only [putT, List.set_cons_succ, List.set_cons_zero]) | (apply wl_conv; exact rfl; exact hM; exact rfl; exact rfl; exact inferInstance; exact inferInstance; simp only [putT, List.set_cons_succ, List.set_cons_zero])))
    refine wp_region_memN 10 [] [4, 9] [4, 9] hM (by kernel_rfl) (by kernel_rfl) (by kernel_rfl) (by kernel_rfl) (by kernel_rfl) ?_; simp only [List.take_succ_cons, List.take_zero]; simp only [initS, Act.put, List.setIfInBounds_toArray, List.set_cons_succ, List.set_cons_zero, List.map_cons, List.map_nil]
    (repeat (first
      | (apply gl_move; (first | exact .inl rfl | exact .inr rfl); exact rfl; exact rfl; simp only [setD, List.set_cons_succ, List.set_cons_zero]) | (apply gl_lda; exact rfl; exact rfl; exact rfl; exact inferInstance; exact inferInstance; exact inferInstance; exact inferInstance; simp only [setD, List.set_cons_succ, List.set_cons_zero])
      | (refine gw_at 4 ?_; (refine gl_wpF (LockF pv x1 l1) LockF.grow rfl (by decide) (by decide) rfl (by simp) (fun γ w' hC hP => ?_) ?_; (focus (simp only [slAct, slVals, Slot.get]; go_wp2_with (first | (go_at_call 33; refine (unhide HC1 w' hC.1.grow).mono ?_; rintro e1 w1 ⟨val, rfl, hv, hg⟩)); (first | exact ⟨hg, LockF.less hv hC.2.1⟩ | exact LockF.less hv hC.2.1))); simp only [setD, List.set_cons_succ, List.set_cons_zero]))
      | (refine gw_at 9 ?_; (refine gl_wpF (LockF qv x2 l2) LockF.grow rfl (by decide) (by decide) rfl (by simp) (fun γ w' hC hP => ?_) ?_; (focus (simp only [slAct, slVals, Slot.get]; go_wp2_with (first | (go_at_call 33; refine (unhide HC2 w' hC.1.grow).mono ?_; rintro e1 w1 ⟨val, rfl, hv, hg⟩)); (first | exact ⟨hg, LockF.less hv hC.2.1⟩ | exact LockF.less hv hC.2.1))); simp only [setD, List.set_cons_succ, List.set_cons_zero]))
      | (apply gl_move; (first | exact .inl rfl | exact .inr rfl); exact rfl; exact rfl; simp only [setD, List.set_cons_succ, List.set_cons_zero]) | (apply gl_ld; exact rfl; exact rfl; exact rfl; exact inferInstance; exact inferInstance; simp only [setD, List.set_cons_succ, List.set_cons_zero]) | (apply gl_lda; exact rfl; exact rfl; exact rfl; exact inferInstance; exact inferInstance; exact inferInstance; exact inferInstance; simp only [setD, List.set_cons_succ, List.set_cons_zero]) | (apply gl_ldr; exact rfl; exact rfl; exact rfl; exact inferInstance; exact inferInstance; exact inferInstance; exact inferInstance; simp only [setD, List.set_cons_succ, List.set_cons_zero]) | (apply gl_cmp true; exact rfl; exact rfl; exact rfl; exact rfl; (simp only [cmpB, Option.some.injEq, decide_eq_true_eq, ne_eq]; omega); simp only [setD, List.set_cons_succ, List.set_cons_zero]) | (apply gl_cmp false; exact rfl; exact rfl; exact rfl; exact rfl; (simp only [cmpB, Option.some.injEq, decide_eq_false_iff_not, ne_eq]; omega); simp only [setD, List.set_cons_succ, List.set_cons_zero]) | (apply gl_pick; exact rfl; exact rfl; exact rfl; exact rfl; exact rfl; simp only [setD, List.set_cons_succ, List.set_cons_zero, cond_true, cond_false]) | (apply gl_conv; exact rfl; exact rfl; exact rfl; exact inferInstance; exact inferInstance; simp only [setD, List.set_cons_succ, List.set_cons_zero]) | (apply gl_skip; exact rfl; simp only [setD, List.set_cons_succ, List.set_cons_zero]) | (apply gl_moveP; (first | exact .inl rfl | exact .inr rfl); exact rfl; exact rfl; exact rfl; (first | exact FRow.grow | exact FBlk.grow | exact FAgg.grow); simp only [setD, List.set_cons_succ, List.set_cons_zero]) | (refine gw_isPure rfl ?_; apply gl_pure; exact rfl; intro K hK; go_simp; refine hK _ ?_; clear hK K; simp only [setD, List.set_cons_succ, List.set_cons_zero])))
    refine gw_nil ?_; intro γ w6 hC' hk'; simp only [slAct, slVals, Slot.get]
    have hL1 := hk' 4 15 _ rfl rfl rfl
    have hL2 := hk' 9 20 _ rfl rfl rfl
    obtain ⟨A5, c5, A6, c6, e5, -, -⟩ := id hL1
    obtain ⟨A7, c7, A8, c8, e6, -, -⟩ := id hL2
    rw [e5] at hL1
    rw [e6] at hL2
    simp only [e5, e6, List.drop_succ_cons, List.drop_zero, tailWp]
    have hB6 := hC'.2.1
    have hl5 := hM.lt 2 rfl rfl
    have hl6 := hM.lt 1 rfl rfl
    have hl4 := hM.lt 0 rfl rfl
    have hg6 := hM.grow.size
    refine wp_staG rfl hC'.1 rfl rfl all3 inferInstance inferInstance inferInstance ?_
    clear hM hC' hk' e5 e6
    simp only [putT]
    intro w7 hM hsame hsz
    refine wp_staG rfl hM rfl rfl all3 inferInstance inferInstance inferInstance ?_
    clear hM
    simp only [putT]
    intro w8 hM hsame8 hsz8
    have hP1 := (hL1.keep fun i hi => (hsame8 i (by omega)).trans (hsame i (by omega)))
    have hP2 := (hL2.keep fun i hi => (hsame8 i (by omega)).trans (hsame i (by omega)))
    clear hL1 hL2 hsame hsame8
    have HP1 := hide hP1
    have HP2 := hide hP2
    clear hP1 hP2
    have hg8 := hM.grow
    go_wp2_with (first | (apply wl_staG; exact rfl; exact hM; exact rfl; exact rfl; exact rfl; exact all3; exact inferInstance; exact inferInstance; exact inferInstance; clear hM; intro w9 hM hsame9 hsz9; simp only [putT, List.set_cons_succ, List.set_cons_zero]) | ((with_reducible refine wl_shape ?_); first | (apply wl_boxa; exact rfl; exact hM; exact rfl; exact rfl; clear hM; intro gg ww hM; simp only [putT, List.set_cons_succ, List.set_cons_zero]) | (apply wl_box1; exact rfl; exact hM; exact rfl; exact rfl; exact rfl; clear hM; intro gg ww hM; simp only [putT, List.set_cons_succ, List.set_cons_zero]) | (apply wl_alloc; exact rfl; exact hM; exact rfl; exact inferInstance; clear hM; intro gg ww hM; simp only [putT, List.set_cons_succ, List.set_cons_zero]) | (apply wl_ld; exact rfl; exact hM; exact rfl; exact rfl; exact inferInstance; exact inferInstance; simp only [putT, List.set_cons_succ, List.set_cons_zero]) | (apply wl_lda; exact rfl; exact hM; exact rfl; exact rfl; exact inferInstance; exact inferInstance; exact inferInstance; exact inferInstance; simp only [putT, List.set_cons_succ, List.set_cons_zero]) | (apply wl_ldr; exact rfl; exact hM; exact rfl; exact rfl; exact inferInstance; exact inferInstance; exact inferInstance; exact inferInstance; simp only [putT, List.set_cons_succ, List.set_cons_zero]) | (apply wl_st; exact rfl; exact hM; exact rfl; exact rfl; exact rfl; exact rfl; exact inferInstance; exact inferInstance; clear hM; intro ww hM; simp only [putT, List.set_cons_succ, List.set_cons_zero]) | (apply wl_sta; exact rfl; exact hM; exact rfl; exact rfl; exact rfl; exact all_oneCell_toArray One.out; exact inferInstance; exact inferInstance; exact inferInstance; clear hM; intro ww hM; simp only [putT, List.set_cons_succ, List.set_cons_zero]) | (apply wl_bs0; exact rfl; exact hM; exact rfl; exact inferInstance; clear hM; intro gg ww hM; simp only [putT, List.set_cons_succ, List.set_cons_zero]) | (apply wl_bs1a; exact rfl; exact hM; exact rfl; exact inferInstance; exact rfl; exact inferInstance; clear hM; intro gg ww hM; simp only [putT, List.set_cons_succ, List.set_cons_zero]) | (apply wl_bs11; exact rfl; exact hM; exact rfl; exact inferInstance; exact rfl; exact rfl; clear hM; intro gg ww hM; simp only [putT, List.set_cons_succ, List.set_cons_zero]) | (apply wl_conv; exact rfl; exact hM; exact rfl; exact rfl; exact inferInstance; exact inferInstance; simp only [putT, List.set_cons_succ, List.set_cons_zero])))
    exact bodyPost_row rfl rfl _ _ _ (hM.blk 0 rfl) rfl _ Try.underlying40 rfl (by kernel_rfl) ⟨_, rfl, ((unhide HP1).keep fun i hi => hsame9 i (by omega)).lockP, hM.grow⟩
end
section
open Go.RowKit Go.MapKept
set_option linter.unusedSimpArgs false
set_option linter.unusedVariables false
attribute [local irreducible] wpList Code.wp GW Calls
set_option maxRecDepth 100000 in
set_option maxHeartbeats 4000000 in
theorem RHigher_any (w : World) (g c ka la kb lb : Nat) (A KA LA KB LB : Option Addr) (ks : List (List (BitVec 8))) (va vb : List Vt) (slot below av bv : Int) (xa xb : List (BitVec 8)) (h : RingIs w g A c 58 ks) (hk10 : ks.length ≤ 1000)
    (hxa : Bytes w w.heap.size KA xa.length xa) (hla : Reads w w.heap.size 68 LA va.length (vCells va)) (hka : xa.length ≤ ka) (hca : va.length ≤ la) (hoka : ∀ v ∈ va, v.Ok) (hna : xa.length ≤ 100000) (hma : va.length ≤ 100000)
    (hxb : Bytes w w.heap.size KB xb.length xb) (hlb : Reads w w.heap.size 68 LB vb.length (vCells vb)) (hkb : xb.length ≤ kb) (hcb : vb.length ≤ lb) (hokb : ∀ v ∈ vb, v.Ok) (hnb : xb.length ≤ 100000) (hmb : vb.length ≤ 100000) :
    Calls Try.prog 22 #[.pointer (some ⟨g, 0, none⟩), .int .i64 slot, .int .i64 below, .agg #[.int .i64 av, .slice KA xa.length ka, .slice LA va.length la], .agg #[.int .i64 bv, .slice KB xb.length kb, .slice LB vb.length lb]] w
      (LockR (hiV (provesOf ks va slot below xa) (provesOf ks vb slot below xb)) (hiX (provesOf ks va slot below xa) (provesOf ks vb slot below xb) xa xb) (hiL (provesOf ks va slot below xa) (provesOf ks vb slot below xb) va vb) w) := by
  have hM := Mem.nil w noOwn
  have tok : True := trivial
  have hpg := fun v => proves_ge ks va slot below xa v
  have hqg := fun v => proves_ge ks vb slot below xb v
  obtain ⟨p, hp⟩ : ∃ p, p = provesOf ks va slot below xa := ⟨_, rfl⟩
  obtain ⟨q, hq⟩ : ∃ q, q = provesOf ks vb slot below xb := ⟨_, rfl⟩
  rw [← hp] at hpg
  rw [← hq] at hqg
  have hc1 := fun w' (hg : Grow w noOwn w') => RProves_any w' g c va.length la xa.length ka A LA KA ks va slot below xa (h.grow hg) (hla.up hg) rfl hca hoka hk10 (bytesUp hxa hg) hka (by omega)
  have hc2 := fun w' (hg : Grow w noOwn w') => RProves_any w' g c vb.length lb xb.length kb A LB KB ks vb slot below xb (h.grow hg) (hlb.up hg) rfl hcb hokb hk10 (bytesUp hxb hg) hkb (by omega)
  rw [← hp] at hc1
  rw [← hq] at hc2
  rw [← hp, ← hq]
  clear hp hq
  have lp1 : ∀ (v : Int) (w' : World), Grow w noOwn w' → LockP v xa va (.agg #[.int .i64 v, .slice KA xa.length ka, .slice LA va.length la]) w' := fun v w' hg => ⟨_, _, _, _, rfl, hka, hca, bytesUp hxa hg, hla.up hg⟩
  have lp2 : ∀ (v : Int) (w' : World), Grow w noOwn w' → LockP v xb vb (.agg #[.int .i64 v, .slice KB xb.length kb, .slice LB vb.length lb]) w' := fun v w' hg => ⟨_, _, _, _, rfl, hkb, hcb, bytesUp hxb hg, hlb.up hg⟩
  have LP1 := hide lp1
  have LP2 := hide lp2
  clear lp1 lp2
  rcases p with _ | v <;> rcases q with _ | u
  · have hT1 : pvT none = #[.int .i64 (-1), .bool false] := rfl
    have hT2 : pvT none = #[.int .i64 (-1), .bool false] := rfl
    rw [hT1] at hc1
    rw [hT2] at hc2
    rw [show hiV none none = -1 from rfl, show hiX none none xa xb = [] from rfl, show hiL none none va vb = [] from rfl]
    have HC1 := hide hc1
    have HC2 := hide hc2
    clear hc1 hc2 hT1 hT2 hpg hqg
    go_enter Try.func22, Try.ntmps22
    go_wp2_with (first
      | ((with_reducible refine wl_shape ?_); first | (apply wl_boxa; exact rfl; exact hM; exact rfl; exact rfl; clear hM; intro gg ww hM; simp only [putT, List.set_cons_succ, List.set_cons_zero]) | (apply wl_box1; exact rfl; exact hM; exact rfl; exact rfl; exact rfl; clear hM; intro gg ww hM; simp only [putT, List.set_cons_succ, List.set_cons_zero]) | (apply wl_alloc; exact rfl; exact hM; exact rfl; exact inferInstance; clear hM; intro gg ww hM; simp only [putT, List.set_cons_succ, List.set_cons_zero]) | (apply wl_ld; exact rfl; exact hM; exact rfl; exact rfl; exact inferInstance; exact inferInstance; simp only [putT, List.set_cons_succ, List.set_cons_zero]) | (apply wl_lda; exact rfl; exact hM; exact rfl; exact rfl; exact inferInstance; exact inferInstance; exact inferInstance; exact inferInstance; simp only [putT, List.set_cons_succ, List.set_cons_zero]) | (apply wl_ldr; exact rfl; exact hM; exact rfl; exact rfl; exact inferInstance; exact inferInstance; exact inferInstance; exact inferInstance; simp only [putT, List.set_cons_succ, List.set_cons_zero]) | (apply wl_st; exact rfl; exact hM; exact rfl; exact rfl; exact rfl; exact rfl; exact inferInstance; exact inferInstance; clear hM; intro ww hM; simp only [putT, List.set_cons_succ, List.set_cons_zero]) | (apply wl_sta; exact rfl; exact hM; exact rfl; exact rfl; exact rfl; exact all_oneCell_toArray One.out; exact inferInstance; exact inferInstance; exact inferInstance; clear hM; intro ww hM; simp only [putT, List.set_cons_succ, List.set_cons_zero]) | (apply wl_bs0; exact rfl; exact hM; exact rfl; exact inferInstance; clear hM; intro gg ww hM; simp only [putT, List.set_cons_succ, List.set_cons_zero]) | (apply wl_bs1a; exact rfl; exact hM; exact rfl; exact inferInstance; exact rfl; exact inferInstance; clear hM; intro gg ww hM; simp only [putT, List.set_cons_succ, List.set_cons_zero]) | (apply wl_bs11; exact rfl; exact hM; exact rfl; exact inferInstance; exact rfl; exact rfl; clear hM; intro gg ww hM; simp only [putT, List.set_cons_succ, List.set_cons_zero]) | (apply wl_conv; exact rfl; exact hM; exact rfl; exact rfl; exact inferInstance; exact inferInstance; simp only [putT, List.set_cons_succ, List.set_cons_zero]))
      | (have _t := tok; go_at_call 19; refine (unhide HC1 _ hM.grow).mono ?_; clear tok; rintro e1 w1 ⟨rfl, hg⟩; replace hM := hM.call hg; clear hg)
      | (go_at_call 19; refine (unhide HC2 _ hM.grow).mono ?_; rintro e1 w1 ⟨rfl, hg⟩; replace hM := hM.call hg; clear hg)
      | (refine wpList_build_to rfl 49 _ rfl #[.int .i64 0, .slice KA xa.length ka, .slice LA va.length la] (by kernel_rfl) ?_)
      | (go_at_call 36; refine (RFree_any _).mono ?_; rintro e1 w1 ⟨rfl, hg⟩; replace hM := hM.call hg; clear hg))
    exact bodyPost_row rfl rfl _ _ _ (hM.blk 0 rfl) rfl _ Try.underlying49 rfl (by kernel_rfl) ⟨_, rfl, (lockF_free _ 0).lockP, hM.grow⟩
  · have hu := hqg u rfl
    have hlt : pvI none < pvI (some u) := by show (-1 : Int) < u; omega
    have hT1 : pvT none = #[.int .i64 (-1), .bool false] := rfl
    have hT2 : pvT (some u) = #[.int .i64 u, .bool true] := rfl
    rw [hT1] at hc1
    rw [hT2] at hc2
    rw [show hiV none (some u) = u from if_pos hlt, show hiX none (some u) xa xb = xb from if_pos hlt, show hiL none (some u) va vb = vb from if_pos hlt]
    have HC1 := hide hc1
    have HC2 := hide hc2
    clear hc1 hc2 hT1 hT2 hpg hqg
    go_enter Try.func22, Try.ntmps22
    go_wp2_with (first
      | ((with_reducible refine wl_shape ?_); first | (apply wl_boxa; exact rfl; exact hM; exact rfl; exact rfl; clear hM; intro gg ww hM; simp only [putT, List.set_cons_succ, List.set_cons_zero]) | (apply wl_box1; exact rfl; exact hM; exact rfl; exact rfl; exact rfl; clear hM; intro gg ww hM; simp only [putT, List.set_cons_succ, List.set_cons_zero]) | (apply wl_alloc; exact rfl; exact hM; exact rfl; exact inferInstance; clear hM; intro gg ww hM; simp only [putT, List.set_cons_succ, List.set_cons_zero]) | (apply wl_ld; exact rfl; exact hM; exact rfl; exact rfl; exact inferInstance; exact inferInstance; simp only [putT, List.set_cons_succ, List.set_cons_zero]) | (apply wl_lda; exact rfl; exact hM; exact rfl; exact rfl; exact inferInstance; exact inferInstance; exact inferInstance; exact inferInstance; simp only [putT, List.set_cons_succ, List.set_cons_zero]) | (apply wl_ldr; exact rfl; exact hM; exact rfl; exact rfl; exact inferInstance; exact inferInstance; exact inferInstance; exact inferInstance; simp only [putT, List.set_cons_succ, List.set_cons_zero]) | (apply wl_st; exact rfl; exact hM; exact rfl; exact rfl; exact rfl; exact rfl; exact inferInstance; exact inferInstance; clear hM; intro ww hM; simp only [putT, List.set_cons_succ, List.set_cons_zero]) | (apply wl_sta; exact rfl; exact hM; exact rfl; exact rfl; exact rfl; exact all_oneCell_toArray One.out; exact inferInstance; exact inferInstance; exact inferInstance; clear hM; intro ww hM; simp only [putT, List.set_cons_succ, List.set_cons_zero]) | (apply wl_bs0; exact rfl; exact hM; exact rfl; exact inferInstance; clear hM; intro gg ww hM; simp only [putT, List.set_cons_succ, List.set_cons_zero]) | (apply wl_bs1a; exact rfl; exact hM; exact rfl; exact inferInstance; exact rfl; exact inferInstance; clear hM; intro gg ww hM; simp only [putT, List.set_cons_succ, List.set_cons_zero]) | (apply wl_bs11; exact rfl; exact hM; exact rfl; exact inferInstance; exact rfl; exact rfl; clear hM; intro gg ww hM; simp only [putT, List.set_cons_succ, List.set_cons_zero]) | (apply wl_conv; exact rfl; exact hM; exact rfl; exact rfl; exact inferInstance; exact inferInstance; simp only [putT, List.set_cons_succ, List.set_cons_zero]))
      | (have _t := tok; go_at_call 19; refine (unhide HC1 _ hM.grow).mono ?_; clear tok; rintro e1 w1 ⟨rfl, hg⟩; replace hM := hM.call hg; clear hg)
      | (go_at_call 19; refine (unhide HC2 _ hM.grow).mono ?_; rintro e1 w1 ⟨rfl, hg⟩; replace hM := hM.call hg; clear hg)
      | (refine wpList_build_to rfl 49 _ rfl #[.int .i64 u, .slice KB xb.length kb, .slice LB vb.length lb] (by kernel_rfl) ?_)
      | (go_at_call 36; refine (RFree_any _).mono ?_; rintro e1 w1 ⟨rfl, hg⟩; replace hM := hM.call hg; clear hg))
    exact bodyPost_row rfl rfl _ _ _ (hM.blk 0 rfl) rfl _ Try.underlying49 rfl (by kernel_rfl) ⟨_, rfl, unhide LP2 _ _ hM.grow, hM.grow⟩
  · have hv := hpg v rfl
    have hlt : ¬ pvI (some v) < pvI none := by show ¬ v < (-1 : Int); omega
    have hT1 : pvT (some v) = #[.int .i64 v, .bool true] := rfl
    have hT2 : pvT none = #[.int .i64 (-1), .bool false] := rfl
    rw [hT1] at hc1
    rw [hT2] at hc2
    rw [show hiV (some v) none = v from if_neg hlt, show hiX (some v) none xa xb = xa from if_neg hlt, show hiL (some v) none va vb = va from if_neg hlt]
    have HC1 := hide hc1
    have HC2 := hide hc2
    clear hc1 hc2 hT1 hT2 hpg hqg
    go_enter Try.func22, Try.ntmps22
    go_wp2_with (first
      | ((with_reducible refine wl_shape ?_); first | (apply wl_boxa; exact rfl; exact hM; exact rfl; exact rfl; clear hM; intro gg ww hM; simp only [putT, List.set_cons_succ, List.set_cons_zero]) | (apply wl_box1; exact rfl; exact hM; exact rfl; exact rfl; exact rfl; clear hM; intro gg ww hM; simp only [putT, List.set_cons_succ, List.set_cons_zero]) | (apply wl_alloc; exact rfl; exact hM; exact rfl; exact inferInstance; clear hM; intro gg ww hM; simp only [putT, List.set_cons_succ, List.set_cons_zero]) | (apply wl_ld; exact rfl; exact hM; exact rfl; exact rfl; exact inferInstance; exact inferInstance; simp only [putT, List.set_cons_succ, List.set_cons_zero]) | (apply wl_lda; exact rfl; exact hM; exact rfl; exact rfl; exact inferInstance; exact inferInstance; exact inferInstance; exact inferInstance; simp only [putT, List.set_cons_succ, List.set_cons_zero]) | (apply wl_ldr; exact rfl; exact hM; exact rfl; exact rfl; exact inferInstance; exact inferInstance; exact inferInstance; exact inferInstance; simp only [putT, List.set_cons_succ, List.set_cons_zero]) | (apply wl_st; exact rfl; exact hM; exact rfl; exact rfl; exact rfl; exact rfl; exact inferInstance; exact inferInstance; clear hM; intro ww hM; simp only [putT, List.set_cons_succ, List.set_cons_zero]) | (apply wl_sta; exact rfl; exact hM; exact rfl; exact rfl; exact rfl; exact all_oneCell_toArray One.out; exact inferInstance; exact inferInstance; exact inferInstance; clear hM; intro ww hM; simp only [putT, List.set_cons_succ, List.set_cons_zero]) | (apply wl_bs0; exact rfl; exact hM; exact rfl; exact inferInstance; clear hM; intro gg ww hM; simp only [putT, List.set_cons_succ, List.set_cons_zero]) | (apply wl_bs1a; exact rfl; exact hM; exact rfl; exact inferInstance; exact rfl; exact inferInstance; clear hM; intro gg ww hM; simp only [putT, List.set_cons_succ, List.set_cons_zero]) | (apply wl_bs11; exact rfl; exact hM; exact rfl; exact inferInstance; exact rfl; exact rfl; clear hM; intro gg ww hM; simp only [putT, List.set_cons_succ, List.set_cons_zero]) | (apply wl_conv; exact rfl; exact hM; exact rfl; exact rfl; exact inferInstance; exact inferInstance; simp only [putT, List.set_cons_succ, List.set_cons_zero]))
      | (have _t := tok; go_at_call 19; refine (unhide HC1 _ hM.grow).mono ?_; clear tok; rintro e1 w1 ⟨rfl, hg⟩; replace hM := hM.call hg; clear hg)
      | (go_at_call 19; refine (unhide HC2 _ hM.grow).mono ?_; rintro e1 w1 ⟨rfl, hg⟩; replace hM := hM.call hg; clear hg)
      | (refine wpList_build_to rfl 49 _ rfl #[.int .i64 v, .slice KA xa.length ka, .slice LA va.length la] (by kernel_rfl) ?_)
      | (go_at_call 36; refine (RFree_any _).mono ?_; rintro e1 w1 ⟨rfl, hg⟩; replace hM := hM.call hg; clear hg))
    exact bodyPost_row rfl rfl _ _ _ (hM.blk 0 rfl) rfl _ Try.underlying49 rfl (by kernel_rfl) ⟨_, rfl, unhide LP1 _ _ hM.grow, hM.grow⟩
  · by_cases hlt : v < u
    · have hlt2 : pvI (some v) < pvI (some u) := hlt
      have hT1 : pvT (some v) = #[.int .i64 v, .bool true] := rfl
      have hT2 : pvT (some u) = #[.int .i64 u, .bool true] := rfl
      rw [hT1] at hc1
      rw [hT2] at hc2
      rw [show hiV (some v) (some u) = u from if_pos hlt2, show hiX (some v) (some u) xa xb = xb from if_pos hlt2, show hiL (some v) (some u) va vb = vb from if_pos hlt2]
      have HC1 := hide hc1
      have HC2 := hide hc2
      clear hc1 hc2 hT1 hT2 hpg hqg
      go_enter Try.func22, Try.ntmps22
      go_wp2_with (first
        | ((with_reducible refine wl_shape ?_); first | (apply wl_boxa; exact rfl; exact hM; exact rfl; exact rfl; clear hM; intro gg ww hM; simp only [putT, List.set_cons_succ, List.set_cons_zero]) | (apply wl_box1; exact rfl; exact hM; exact rfl; exact rfl; exact rfl; clear hM; intro gg ww hM; simp only [putT, List.set_cons_succ, List.set_cons_zero]) | (apply wl_alloc; exact rfl; exact hM; exact rfl; exact inferInstance; clear hM; intro gg ww hM; simp only [putT, List.set_cons_succ, List.set_cons_zero]) | (apply wl_ld; exact rfl; exact hM; exact rfl; exact rfl; exact inferInstance; exact inferInstance; simp only [putT, List.set_cons_succ, List.set_cons_zero]) | (apply wl_lda; exact rfl; exact hM; exact rfl; exact rfl; exact inferInstance; exact inferInstance; exact inferInstance; exact inferInstance; simp only [putT, List.set_cons_succ, List.set_cons_zero]) | (apply wl_ldr; exact rfl; exact hM; exact rfl; exact rfl; exact inferInstance; exact inferInstance; exact inferInstance; exact inferInstance; simp only [putT, List.set_cons_succ, List.set_cons_zero]) | (apply wl_st; exact rfl; exact hM; exact rfl; exact rfl; exact rfl; exact rfl; exact inferInstance; exact inferInstance; clear hM; intro ww hM; simp only [putT, List.set_cons_succ, List.set_cons_zero]) | (apply wl_sta; exact rfl; exact hM; exact rfl; exact rfl; exact rfl; exact all_oneCell_toArray One.out; exact inferInstance; exact inferInstance; exact inferInstance; clear hM; intro ww hM; simp only [putT, List.set_cons_succ, List.set_cons_zero]) | (apply wl_bs0; exact rfl; exact hM; exact rfl; exact inferInstance; clear hM; intro gg ww hM; simp only [putT, List.set_cons_succ, List.set_cons_zero]) | (apply wl_bs1a; exact rfl; exact hM; exact rfl; exact inferInstance; exact rfl; exact inferInstance; clear hM; intro gg ww hM; simp only [putT, List.set_cons_succ, List.set_cons_zero]) | (apply wl_bs11; exact rfl; exact hM; exact rfl; exact inferInstance; exact rfl; exact rfl; clear hM; intro gg ww hM; simp only [putT, List.set_cons_succ, List.set_cons_zero]) | (apply wl_conv; exact rfl; exact hM; exact rfl; exact rfl; exact inferInstance; exact inferInstance; simp only [putT, List.set_cons_succ, List.set_cons_zero]))
        | (have _t := tok; go_at_call 19; refine (unhide HC1 _ hM.grow).mono ?_; clear tok; rintro e1 w1 ⟨rfl, hg⟩; replace hM := hM.call hg; clear hg)
        | (go_at_call 19; refine (unhide HC2 _ hM.grow).mono ?_; rintro e1 w1 ⟨rfl, hg⟩; replace hM := hM.call hg; clear hg)
        | (refine wpList_build_to rfl 49 _ rfl #[.int .i64 u, .slice KB xb.length kb, .slice LB vb.length lb] (by kernel_rfl) ?_)
        | (go_at_call 36; refine (RFree_any _).mono ?_; rintro e1 w1 ⟨rfl, hg⟩; replace hM := hM.call hg; clear hg))
      exact bodyPost_row rfl rfl _ _ _ (hM.blk 0 rfl) rfl _ Try.underlying49 rfl (by kernel_rfl) ⟨_, rfl, unhide LP2 _ _ hM.grow, hM.grow⟩
    · have hlt2 : ¬ pvI (some v) < pvI (some u) := hlt
      have hT1 : pvT (some v) = #[.int .i64 v, .bool true] := rfl
      have hT2 : pvT (some u) = #[.int .i64 u, .bool true] := rfl
      rw [hT1] at hc1
      rw [hT2] at hc2
      rw [show hiV (some v) (some u) = v from if_neg hlt2, show hiX (some v) (some u) xa xb = xa from if_neg hlt2, show hiL (some v) (some u) va vb = va from if_neg hlt2]
      have HC1 := hide hc1
      have HC2 := hide hc2
      clear hc1 hc2 hT1 hT2 hpg hqg
      go_enter Try.func22, Try.ntmps22
      go_wp2_with (first
        | ((with_reducible refine wl_shape ?_); first | (apply wl_boxa; exact rfl; exact hM; exact rfl; exact rfl; clear hM; intro gg ww hM; simp only [putT, List.set_cons_succ, List.set_cons_zero]) | (apply wl_box1; exact rfl; exact hM; exact rfl; exact rfl; exact rfl; clear hM; intro gg ww hM; simp only [putT, List.set_cons_succ, List.set_cons_zero]) | (apply wl_alloc; exact rfl; exact hM; exact rfl; exact inferInstance; clear hM; intro gg ww hM; simp only [putT, List.set_cons_succ, List.set_cons_zero]) | (apply wl_ld; exact rfl; exact hM; exact rfl; exact rfl; exact inferInstance; exact inferInstance; simp only [putT, List.set_cons_succ, List.set_cons_zero]) | (apply wl_lda; exact rfl; exact hM; exact rfl; exact rfl; exact inferInstance; exact inferInstance; exact inferInstance; exact inferInstance; simp only [putT, List.set_cons_succ, List.set_cons_zero]) | (apply wl_ldr; exact rfl; exact hM; exact rfl; exact rfl; exact inferInstance; exact inferInstance; exact inferInstance; exact inferInstance; simp only [putT, List.set_cons_succ, List.set_cons_zero]) | (apply wl_st; exact rfl; exact hM; exact rfl; exact rfl; exact rfl; exact rfl; exact inferInstance; exact inferInstance; clear hM; intro ww hM; simp only [putT, List.set_cons_succ, List.set_cons_zero]) | (apply wl_sta; exact rfl; exact hM; exact rfl; exact rfl; exact rfl; exact all_oneCell_toArray One.out; exact inferInstance; exact inferInstance; exact inferInstance; clear hM; intro ww hM; simp only [putT, List.set_cons_succ, List.set_cons_zero]) | (apply wl_bs0; exact rfl; exact hM; exact rfl; exact inferInstance; clear hM; intro gg ww hM; simp only [putT, List.set_cons_succ, List.set_cons_zero]) | (apply wl_bs1a; exact rfl; exact hM; exact rfl; exact inferInstance; exact rfl; exact inferInstance; clear hM; intro gg ww hM; simp only [putT, List.set_cons_succ, List.set_cons_zero]) | (apply wl_bs11; exact rfl; exact hM; exact rfl; exact inferInstance; exact rfl; exact rfl; clear hM; intro gg ww hM; simp only [putT, List.set_cons_succ, List.set_cons_zero]) | (apply wl_conv; exact rfl; exact hM; exact rfl; exact rfl; exact inferInstance; exact inferInstance; simp only [putT, List.set_cons_succ, List.set_cons_zero]))
        | (have _t := tok; go_at_call 19; refine (unhide HC1 _ hM.grow).mono ?_; clear tok; rintro e1 w1 ⟨rfl, hg⟩; replace hM := hM.call hg; clear hg)
        | (go_at_call 19; refine (unhide HC2 _ hM.grow).mono ?_; rintro e1 w1 ⟨rfl, hg⟩; replace hM := hM.call hg; clear hg)
        | (refine wpList_build_to rfl 49 _ rfl #[.int .i64 v, .slice KA xa.length ka, .slice LA va.length la] (by kernel_rfl) ?_)
        | (go_at_call 36; refine (RFree_any _).mono ?_; rintro e1 w1 ⟨rfl, hg⟩; replace hM := hM.call hg; clear hg))
      exact bodyPost_row rfl rfl _ _ _ (hM.blk 0 rfl) rfl _ Try.underlying49 rfl (by kernel_rfl) ⟨_, rfl, unhide LP1 _ _ hM.grow, hM.grow⟩
set_option maxRecDepth 100000 in
set_option maxHeartbeats 4000000 in
theorem Same_any (w : World) (v : Int) (x : List (BitVec 8)) (lv : List Vt) (a b : Value) (ha : LockP v x lv a w) (hb : LockP v x lv b w) (hok : ∀ u ∈ lv, u.Ok) (hl : lv.length ≤ 1000000) :
    Calls Try.prog 21 #[a, b] w fun e w' => e = .returned (.bool true) ∧ Grow w noOwn w' := by
  have hM := Mem.nil w noOwn
  obtain ⟨A, c, B, d, rfl, hc, hd, hb1, hb2⟩ := ha
  obtain ⟨A3, c3, B3, d3, rfl, hc3, hd3, hb3, hb4⟩ := hb
  have r1 : RdsB w noOwn A x.length x := rdsB_no hb1
  have r2 : RdsB w noOwn A3 x.length x := rdsB_no hb3
  go_enter Try.func21, Try.ntmps21
  go_wp2_with (first
    | ((with_reducible refine wl_shape ?_); first | (apply wl_boxa; exact rfl; exact hM; exact rfl; exact rfl; clear hM; intro gg ww hM; simp only [putT, List.set_cons_succ, List.set_cons_zero]) | (apply wl_box1; exact rfl; exact hM; exact rfl; exact rfl; exact rfl; clear hM; intro gg ww hM; simp only [putT, List.set_cons_succ, List.set_cons_zero]) | (apply wl_alloc; exact rfl; exact hM; exact rfl; exact inferInstance; clear hM; intro gg ww hM; simp only [putT, List.set_cons_succ, List.set_cons_zero]) | (apply wl_ld; exact rfl; exact hM; exact rfl; exact rfl; exact inferInstance; exact inferInstance; simp only [putT, List.set_cons_succ, List.set_cons_zero]) | (apply wl_lda; exact rfl; exact hM; exact rfl; exact rfl; exact inferInstance; exact inferInstance; exact inferInstance; exact inferInstance; simp only [putT, List.set_cons_succ, List.set_cons_zero]) | (apply wl_ldr; exact rfl; exact hM; exact rfl; exact rfl; exact inferInstance; exact inferInstance; exact inferInstance; exact inferInstance; simp only [putT, List.set_cons_succ, List.set_cons_zero]) | (apply wl_st; exact rfl; exact hM; exact rfl; exact rfl; exact rfl; exact rfl; exact inferInstance; exact inferInstance; clear hM; intro ww hM; simp only [putT, List.set_cons_succ, List.set_cons_zero]) | (apply wl_sta; exact rfl; exact hM; exact rfl; exact rfl; exact rfl; exact all_oneCell_toArray One.out; exact inferInstance; exact inferInstance; exact inferInstance; clear hM; intro ww hM; simp only [putT, List.set_cons_succ, List.set_cons_zero]) | (apply wl_bs0; exact rfl; exact hM; exact rfl; exact inferInstance; clear hM; intro gg ww hM; simp only [putT, List.set_cons_succ, List.set_cons_zero]) | (apply wl_bs1a; exact rfl; exact hM; exact rfl; exact inferInstance; exact rfl; exact inferInstance; clear hM; intro gg ww hM; simp only [putT, List.set_cons_succ, List.set_cons_zero]) | (apply wl_bs11; exact rfl; exact hM; exact rfl; exact inferInstance; exact rfl; exact rfl; clear hM; intro gg ww hM; simp only [putT, List.set_cons_succ, List.set_cons_zero]) | (apply wl_conv; exact rfl; exact hM; exact rfl; exact rfl; exact inferInstance; exact inferInstance; simp only [putT, List.set_cons_succ, List.set_cons_zero]))
    | (go_at_call 35; refine (VotesSame hok rfl hl (hb2.up hM.grow) (hb4.up hM.grow)).mono ?_; rintro e1 w1 ⟨rfl, hg⟩; replace hM := hM.call hg; clear hg))
  go_ret
  exact ⟨rfl, hM.grow⟩
end
section
open Go.RowKit Go.MapKept
set_option linter.unusedSimpArgs false
set_option linter.unusedVariables false
theorem vCells_app2 (l l2 : List Vt) : vCells (l ++ l2) = vCells l ++ vCells l2 := by simp [vCells]
theorem vCells_snoc2 (l : List Vt) (u : Vt) : vCells (l ++ [u]) = vCells l ++ vtc u := by simp [vCells]
/-- Votes of n nodes. -/
def castN (ks : List (List (BitVec 8))) (k s v : Int) (sum : List (BitVec 8)) (n : Nat) : List Vt := (List.range n).map fun i => castOf ks k s v sum (i : Nat)
theorem castN_len (ks : List (List (BitVec 8))) (k s v : Int) (sum : List (BitVec 8)) (n : Nat) : (castN ks k s v sum n).length = n := by simp [castN]
theorem castN_succ (ks : List (List (BitVec 8))) (k s v : Int) (sum : List (BitVec 8)) (n : Nat) : castN ks k s v sum (n + 1) = castN ks k s v sum n ++ [castOf ks k s v sum (n : Nat)] := by simp [castN, List.range_succ]
theorem castN_ok (ks : List (List (BitVec 8))) (k s v : Int) (sum : List (BitVec 8)) (hs : sum.length = 32) (n : Nat) : ∀ u ∈ castN ks k s v sum n, u.Ok := by
  intro u hu
  obtain ⟨i, _, rfl⟩ := List.mem_map.1 hu
  exact castOf_ok _ _ _ _ _ _ hs
theorem castN_v (ks : List (List (BitVec 8))) (k s v : Int) (sum : List (BitVec 8)) (n : Nat) : ∀ u ∈ castN ks k s v sum n, u.v = v ∧ u.k = k ∧ u.s = s := by
  intro u hu
  obtain ⟨i, _, rfl⟩ := List.mem_map.1 hu
  exact ⟨rfl, rfl, rfl⟩
theorem whoN (ks : List (List (BitVec 8))) (h4 : ks.length = 4) (k s v : Int) (sum : List (BitVec 8)) (n : Nat) (hn : n ≤ 4) : (whoOf ks (castN ks k s v sum n) k s v sum).length = n := by
  have e : onOf ks (castN ks k s v sum n) k s v sum = (List.range n).map fun i => ((i : Nat) : Int) := by
    unfold onOf
    rw [List.take_of_length_le (by rw [castN_len]; omega), List.filter_eq_self.2 (fun u hu => by
      obtain ⟨i, hi, rfl⟩ := List.mem_map.1 hu
      have hi' : i < n := by simpa using hi
      exact votes_cast ks k s v sum (i : Nat) (by omega))]
    unfold castN
    rw [List.map_map]
    rfl
  unfold whoOf
  rw [List.length_mergeSort, e]
  rcases (by omega : n = 0 ∨ n = 1 ∨ n = 2 ∨ n = 3 ∨ n = 4) with rfl | rfl | rfl | rfl | rfl <;> rfl
theorem meetsN (ks : List (List (BitVec 8))) (h4 : ks.length = 4) (k s v : Int) (sum : List (BitVec 8)) (n : Nat) (hn : n ≤ 4) : meetsOf ks (castN ks k s v sum n) k s v sum = decide (3 ≤ n) := by
  unfold meetsOf
  rw [whoN ks h4 k s v sum n hn, h4, show ((4 : Nat) : Int) = 4 from rfl, quorum4]
  rw [Bool.eq_iff_iff, decide_eq_true_eq, decide_eq_true_eq]
  omega
theorem onOf_no (ks : List (List (BitVec 8))) (l : List Vt) (k s v : Int) (sum : List (BitVec 8)) (h : ∀ u ∈ l, votes ks k s v sum u = false) : onOf ks l k s v sum = [] := by
  unfold onOf
  rw [List.filter_eq_nil_iff.2 (fun u hu => by rw [h u (List.mem_of_mem_take hu)]; simp)]
  rfl
theorem meets_no (ks : List (List (BitVec 8))) (h4 : ks.length = 4) (l : List Vt) (k s v : Int) (sum : List (BitVec 8)) (h : ∀ u ∈ l, votes ks k s v sum u = false) : meetsOf ks l k s v sum = false := by
  unfold meetsOf whoOf
  rw [onOf_no ks l k s v sum h, h4, show ((4 : Nat) : Int) = 4 from rfl, quorum4, List.length_mergeSort]
  rfl
/-- Votes of one view. -/
theorem proves_one (ks : List (List (BitVec 8))) (l : List Vt) (slot below view : Int) (val : List (BitVec 8)) (hv : ∀ u ∈ l, u.v = view) (h0 : 0 ≤ view) : provesOf ks l slot below val = if l ≠ [] ∧ view < below ∧ meetsOf ks l 1 slot view (sha val) = true then some view else none := by
  cases l with
  | nil => rfl
  | cons u lr =>
    rw [proves_cons, hv u (List.mem_cons_self ..)]
    by_cases h : view < below ∧ meetsOf ks (u :: lr) 1 slot view (sha val) = true
    · rw [if_pos ⟨h0, h⟩, if_pos ⟨by simp, h⟩]
    · rw [if_neg (fun e => h e.2), if_neg (fun e => h e.2)]
theorem provesN (ks : List (List (BitVec 8))) (h4 : ks.length = 4) (slot below view : Int) (val : List (BitVec 8)) (n : Nat) (hn : n ≤ 4) (h0 : 0 ≤ view) : provesOf ks (castN ks 1 slot view (sha val) n) slot below val = if 3 ≤ n ∧ view < below then some view else none := by
  rw [proves_one ks _ slot below view val (fun u hu => (castN_v _ _ _ _ _ _ u hu).1) h0, meetsN ks h4 1 slot view (sha val) n hn]
  by_cases h : 3 ≤ n ∧ view < below
  · rw [if_pos h, if_pos ⟨fun e => by
      have := castN_len ks 1 slot view (sha val) n
      rw [e] at this
      simp only [List.length_nil] at this
      omega, h.2, decide_eq_true h.1⟩]
  · rw [if_neg h, if_neg (fun e => h ⟨by simpa using e.2.2, e.2.1⟩)]
theorem proves_else (ks : List (List (BitVec 8))) (h4 : ks.length = 4) (k slot slot' below view : Int) (val : List (BitVec 8)) (sum : List (BitVec 8)) (n : Nat) (h : k ≠ 1 ∨ slot ≠ slot') (h0 : 0 ≤ view) : provesOf ks (castN ks k slot view sum n) slot' below val = none := by
  rw [proves_one ks _ slot' below view val (fun u hu => (castN_v _ _ _ _ _ _ u hu).1) h0, meets_no ks h4 _ _ _ _ _ (fun u hu => ?_), if_neg (by simp)]
  have := castN_v _ _ _ _ _ _ u hu
  refine votes_not ks 1 slot' view (sha val) u ?_
  rcases h with h | h
  · exact .inl (by rw [this.2.1]; exact h)
  · exact .inr (.inl (by rw [this.2.2]; exact h))
attribute [local irreducible] wpList Code.wp GW Calls
set_option maxRecDepth 100000 in
set_option maxHeartbeats 4000000 in
theorem Votes7_any (w : World) (g c n vn vc : Nat) (A D : Option Addr) (ks : List (List (BitVec 8))) (slot view : Int) (val : List (BitVec 8)) (h : RingIs w g A c 58 ks) (hn : n ≤ 4) (hb : Bytes w w.heap.size D vn val) (hvc : vn ≤ vc) (hvn : vn ≤ 100000) :
    Calls Try.prog 10 #[.pointer (some ⟨g, 0, none⟩), .int .i64 n, .int .i64 slot, .int .i64 view, .slice D vn vc] w fun e w' => ∃ A' c', e = .returned (.slice A' n c') ∧ Mem w noOwn w' [.row (.slice A' n c') 32 68 n (vCells (castN ks 1 slot view (sha val) n))] := by

  have hM := Mem.nil w noOwn
  have hsl := sha_length val
  go_enter Try.func10, Try.ntmps10
  go_wp2_with (first | ((with_reducible refine wl_shape ?_); first | (apply wl_boxa; exact rfl; exact hM; exact rfl; exact rfl; clear hM; intro gg ww hM; simp only [putT, List.set_cons_succ, List.set_cons_zero]) | (apply wl_box1; exact rfl; exact hM; exact rfl; exact rfl; exact rfl; clear hM; intro gg ww hM; simp only [putT, List.set_cons_succ, List.set_cons_zero]) | (apply wl_alloc; exact rfl; exact hM; exact rfl; exact inferInstance; clear hM; intro gg ww hM; simp only [putT, List.set_cons_succ, List.set_cons_zero]) | (apply wl_ld; exact rfl; exact hM; exact rfl; exact rfl; exact inferInstance; exact inferInstance; simp only [putT, List.set_cons_succ, List.set_cons_zero]) | (apply wl_lda; exact rfl; exact hM; exact rfl; exact rfl; exact inferInstance; exact inferInstance; exact inferInstance; exact inferInstance; simp only [putT, List.set_cons_succ, List.set_cons_zero]) | (apply wl_ldr; exact rfl; exact hM; exact rfl; exact rfl; exact inferInstance; exact inferInstance; exact inferInstance; exact inferInstance; simp only [putT, List.set_cons_succ, List.set_cons_zero]) | (apply wl_st; exact rfl; exact hM; exact rfl; exact rfl; exact rfl; exact rfl; exact inferInstance; exact inferInstance; clear hM; intro ww hM; simp only [putT, List.set_cons_succ, List.set_cons_zero]) | (apply wl_sta; exact rfl; exact hM; exact rfl; exact rfl; exact rfl; exact all_oneCell_toArray One.out; exact inferInstance; exact inferInstance; exact inferInstance; clear hM; intro ww hM; simp only [putT, List.set_cons_succ, List.set_cons_zero]) | (apply wl_bs0; exact rfl; exact hM; exact rfl; exact inferInstance; clear hM; intro gg ww hM; simp only [putT, List.set_cons_succ, List.set_cons_zero]) | (apply wl_bs1a; exact rfl; exact hM; exact rfl; exact inferInstance; exact rfl; exact inferInstance; clear hM; intro gg ww hM; simp only [putT, List.set_cons_succ, List.set_cons_zero]) | (apply wl_bs11; exact rfl; exact hM; exact rfl; exact inferInstance; exact rfl; exact rfl; clear hM; intro gg ww hM; simp only [putT, List.set_cons_succ, List.set_cons_zero]) | (apply wl_conv; exact rfl; exact hM; exact rfl; exact rfl; exact inferInstance; exact inferInstance; simp only [putT, List.set_cons_succ, List.set_cons_zero])))
  replace hM := hM.pushNil 32 68
  have HM := hide hM
  go_loopw [11, 12] (fun lv iv wr => ∃ (q cc : Nat) (A1 : Option Addr), q ≤ n ∧ lv = .slice A1 q cc ∧ iv = .int .i64 q ∧ Mem w noOwn wr [.row (.slice A1 q cc) 32 68 q (vCells (castN ks 1 slot view (sha val) q))]) (fun _ iv _ => n - (intOf iv).toNat)
  case atStart => exact ⟨0, 0, none, Nat.zero_le _, rfl, by go_num, hM⟩
  case round =>
    clear hM HM
    obtain ⟨q, cc, A1, hq, rfl, rfl, hM⟩ := hrel
    by_cases hlt : q < n
    · have hq4 : q < 4 := by omega
      obtain ⟨v, hv⟩ : ∃ v, v = castOf ks 1 slot view (sha val) (q : Nat) := ⟨_, rfl⟩
      have vok : v.Ok := by rw [hv]; exact castOf_ok _ _ _ _ _ _ hsl
      have hcel : vCells (castN ks 1 slot view (sha val) q) ++ vtc v = vCells (castN ks 1 slot view (sha val) (q + 1)) := by rw [castN_succ, ← hv, vCells_snoc2]
      have HC := hide hcel
      have zj : SzL (vtc v) 68 := ⟨vtc_len vok⟩
      have HV := hide hv
      clear hcel hv
      go_wp2_with (first
        | ((with_reducible refine wl_shape ?_); first | (apply wl_boxa; exact rfl; exact hM; exact rfl; exact rfl; clear hM; intro gg ww hM; simp only [putT, List.set_cons_succ, List.set_cons_zero]) | (apply wl_box1; exact rfl; exact hM; exact rfl; exact rfl; exact rfl; clear hM; intro gg ww hM; simp only [putT, List.set_cons_succ, List.set_cons_zero]) | (apply wl_alloc; exact rfl; exact hM; exact rfl; exact inferInstance; clear hM; intro gg ww hM; simp only [putT, List.set_cons_succ, List.set_cons_zero]) | (apply wl_ld; exact rfl; exact hM; exact rfl; exact rfl; exact inferInstance; exact inferInstance; simp only [putT, List.set_cons_succ, List.set_cons_zero]) | (apply wl_lda; exact rfl; exact hM; exact rfl; exact rfl; exact inferInstance; exact inferInstance; exact inferInstance; exact inferInstance; simp only [putT, List.set_cons_succ, List.set_cons_zero]) | (apply wl_ldr; exact rfl; exact hM; exact rfl; exact rfl; exact inferInstance; exact inferInstance; exact inferInstance; exact inferInstance; simp only [putT, List.set_cons_succ, List.set_cons_zero]) | (apply wl_st; exact rfl; exact hM; exact rfl; exact rfl; exact rfl; exact rfl; exact inferInstance; exact inferInstance; clear hM; intro ww hM; simp only [putT, List.set_cons_succ, List.set_cons_zero]) | (apply wl_sta; exact rfl; exact hM; exact rfl; exact rfl; exact rfl; exact all_oneCell_toArray One.out; exact inferInstance; exact inferInstance; exact inferInstance; clear hM; intro ww hM; simp only [putT, List.set_cons_succ, List.set_cons_zero]) | (apply wl_bs0; exact rfl; exact hM; exact rfl; exact inferInstance; clear hM; intro gg ww hM; simp only [putT, List.set_cons_succ, List.set_cons_zero]) | (apply wl_bs1a; exact rfl; exact hM; exact rfl; exact inferInstance; exact rfl; exact inferInstance; clear hM; intro gg ww hM; simp only [putT, List.set_cons_succ, List.set_cons_zero]) | (apply wl_bs11; exact rfl; exact hM; exact rfl; exact inferInstance; exact rfl; exact rfl; clear hM; intro gg ww hM; simp only [putT, List.set_cons_succ, List.set_cons_zero]) | (apply wl_conv; exact rfl; exact hM; exact rfl; exact rfl; exact inferInstance; exact inferInstance; simp only [putT, List.set_cons_succ, List.set_cons_zero]))
        | (go_at_call 12; refine (RValueSum_any _ vn vc D val (gro_up hM.grow hb) hvc (by omega)).mono ?_; rintro e1 w1 ⟨rfl, hg⟩; replace hM := hM.call hg; clear hg)
        | (go_at_call 11; refine (RCast_any _ g c _ ks 1 slot view ((q : Nat) : Int) (sha val) (h.grow hM.grow) hsl).mono ?_; rw [← unhide HV]; rintro e1 w2 ⟨rfl, hg⟩; replace hM := hM.call hg; clear hg)
        | (apply wl_app; exact rfl; exact hM; exact rfl; exact inferInstance; exact rfl; exact rfl; exact inferInstance; exact One.out; exact inferInstance; (unfold maxLen; omega); omega; exact rfl; exact (unhide HC); clear hM; intro A4 c4 ww hM; simp only [List.set_cons_succ, List.set_cons_zero] at hM; simp only [putT, List.set_cons_succ, List.set_cons_zero]))
      go_roundw
      case rel => exact ⟨q + 1, c4, A4, by omega, rfl, by go_num, hM.tail⟩
      case measure => simp [intOf]; omega
    · have e : q = n := by omega
      subst e
      go_wp2_with (first | ((with_reducible refine wl_shape ?_); first | (apply wl_boxa; exact rfl; exact hM; exact rfl; exact rfl; clear hM; intro gg ww hM; simp only [putT, List.set_cons_succ, List.set_cons_zero]) | (apply wl_box1; exact rfl; exact hM; exact rfl; exact rfl; exact rfl; clear hM; intro gg ww hM; simp only [putT, List.set_cons_succ, List.set_cons_zero]) | (apply wl_alloc; exact rfl; exact hM; exact rfl; exact inferInstance; clear hM; intro gg ww hM; simp only [putT, List.set_cons_succ, List.set_cons_zero]) | (apply wl_ld; exact rfl; exact hM; exact rfl; exact rfl; exact inferInstance; exact inferInstance; simp only [putT, List.set_cons_succ, List.set_cons_zero]) | (apply wl_lda; exact rfl; exact hM; exact rfl; exact rfl; exact inferInstance; exact inferInstance; exact inferInstance; exact inferInstance; simp only [putT, List.set_cons_succ, List.set_cons_zero]) | (apply wl_ldr; exact rfl; exact hM; exact rfl; exact rfl; exact inferInstance; exact inferInstance; exact inferInstance; exact inferInstance; simp only [putT, List.set_cons_succ, List.set_cons_zero]) | (apply wl_st; exact rfl; exact hM; exact rfl; exact rfl; exact rfl; exact rfl; exact inferInstance; exact inferInstance; clear hM; intro ww hM; simp only [putT, List.set_cons_succ, List.set_cons_zero]) | (apply wl_sta; exact rfl; exact hM; exact rfl; exact rfl; exact rfl; exact all_oneCell_toArray One.out; exact inferInstance; exact inferInstance; exact inferInstance; clear hM; intro ww hM; simp only [putT, List.set_cons_succ, List.set_cons_zero]) | (apply wl_bs0; exact rfl; exact hM; exact rfl; exact inferInstance; clear hM; intro gg ww hM; simp only [putT, List.set_cons_succ, List.set_cons_zero]) | (apply wl_bs1a; exact rfl; exact hM; exact rfl; exact inferInstance; exact rfl; exact inferInstance; clear hM; intro gg ww hM; simp only [putT, List.set_cons_succ, List.set_cons_zero]) | (apply wl_bs11; exact rfl; exact hM; exact rfl; exact inferInstance; exact rfl; exact rfl; clear hM; intro gg ww hM; simp only [putT, List.set_cons_succ, List.set_cons_zero]) | (apply wl_conv; exact rfl; exact hM; exact rfl; exact rfl; exact inferInstance; exact inferInstance; simp only [putT, List.set_cons_succ, List.set_cons_zero])))
      go_ret
      exact ⟨A1, cc, rfl, hM⟩
end
end Go.Proofs.Ytkcmnhmbpamehaa
