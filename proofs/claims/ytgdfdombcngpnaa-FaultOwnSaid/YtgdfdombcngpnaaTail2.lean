/- A region in any order whose last two operations are a store and a move; one operation that only takes a part may come behind the store. -/
import Derived.Test.YtgdfdombcngpnaaGen
namespace Go.Proofs.Ytgdfdombcngpnaa
open Go.RowKit Go.MapKept
set_option linter.unusedSimpArgs false
set_option linter.unusedVariables false
theorem count_list {listed : Array Bool} {i : Nat} (h : listed.getD i true = false) : (listed.setIfInBounds i true).toList.count false + 1 = listed.toList.count false := by
  have hils : i < listed.size := by
    rcases Nat.lt_or_ge i listed.size with h1 | h1
    · exact h1
    · simp [Array.getElem?_eq_none h1] at h
  have hlf : listed.toList[i]'(by simpa using hils) = false := by simpa [hils] using h
  have hpos := List.count_pos_iff.2 (show false ∈ listed.toList by rw [← hlf]; simp)
  rw [Array.toList_setIfInBounds, List.count_set (by simpa using hils), hlf]
  simp only [beq_self_eq_true, if_true]
  have : (true == false) = false := rfl
  rw [this]
  simp only [Bool.false_eq_true, if_false]
  omega
theorem getD_true_false {listed : Array Bool} {j : Nat} (hj : j < listed.size) (h : listed.getD j true = true) : listed.getD j false = true := by
  simpa [hj] using h
section
variable {P : Program} {l : List Oper} {n fuel : Nat} {listed : Array Bool} {a : Act} {w : World} {Q : Exit → Act → World → Prop}
theorem wpAny_done (hall : ∀ j, j < l.length → listed.getD j true = true) (hq : Q .normal a w) : wpAny P .any l.toArray Q fuel listed a w := by
  have hr0 : Region.ready .any l.toArray listed = [] := by
    apply List.eq_nil_iff_forall_not_mem.2
    intro j hj
    obtain ⟨hun', o', ho', _⟩ := mem_ready.1 hj
    have hjl : j < l.length := by simpa using (Array.getElem?_eq_some_iff.1 ho').1
    rw [hall j hjl] at hun'
    cases hun'
  cases fuel with
  | zero => exact ⟨hr0, hq⟩
  | succ f => exact ⟨fun _ => hq, fun j hj => by rw [hr0] at hj; cases hj⟩
/-- One operation is left, or more of which just one may come up. -/
theorem wpAny_next (hB : ghostB l.toArray n = true) {k : Nat} {o : Oper} (ho : l[k]? = some o) (hg : o.guard = none) (hsz : listed.size = l.length) (hun : listed.getD k true = false) (hbefore : ∀ j, j < k → listed.getD j true = true)
    (hblock : ∀ i, i ∈ Region.ready .any l.toArray listed → i = k) (hwp : o.wp P a w (fun a' w' => wpAny P .any l.toArray Q fuel (listed.setIfInBounds k true) a' w') Q) : wpAny P .any l.toArray Q (fuel + 1) listed a w := by
  have hk : k < l.length := (List.getElem?_eq_some_iff.1 ho).1
  have hL := ghostB_spec hB (i := k) (o := o) (by simpa using ho)
  have hkr : k ∈ Region.ready .any l.toArray listed := mem_ready.2 ⟨hun, o, by simpa using ho, fun e he hb => by
    have hlt := hL.back e he hb
    exact getD_true_false (by omega) (hbefore _ hlt)⟩
  refine ⟨(fun h => by rw [h] at hkr; cases hkr), fun i hi => ?_⟩
  obtain rfl := hblock i hi
  unfold wpOp
  have ho' : l.toArray[i]? = some o := by simpa using ho
  rw [ho']
  simp only
  rw [if_pos (by simp [Region.wanted, hg])]
  exact .inl hwp
end
section
variable {l : List Oper} {C D : World → Prop} {R R' : World → World → Prop} {bigs preds keeps ms : List Nat} {d : List Deferred} {n : Nat} {S0 ss : List Slot}
/-- What is known before operation m, where all before it have been carried out, and it and those behind have not. -/
theorem Inv.endM {listed : Array Bool} {a : Act} {w : World} {K : Act → World → Prop} (m : Nat) (hml : m ≤ l.length) (hI : Inv l C D bigs keeps d n S0 ss listed a w) (hB : ghostB l.toArray n = true) (hl : ss.length = l.length) (hS : S0.length = n) (hS0 : ∀ (t : Nat) (s : Slot), S0[t]? = some s → ∃ c, s = Slot.val c)
    (hfin : DoneK l C keeps d K (fillS S0 l ss m)) (hall : ∀ j, j < m → listed.getD j true = true) (hnot : ∀ j, m ≤ j → j < l.length → listed.getD j true = false) : K a w := by
  have hone : ∀ (j : Nat) (o' : Oper) (t : Nat), l[j]? = some o' → o'.dst = some t → ∀ j' o'', l[j']? = some o'' → o''.dst = some t → j' = j := by
    intro j o' t hj hd j' o'' hj' hd'
    have hLj := ghostB_spec hB (i := j) (o := o') (by simpa using hj)
    by_cases he : j' = j
    · exact he
    · exact absurd hd (hLj.apart j' o'' t (by simpa using hj') he hd').1
  have hget : ∀ t, t < n → ∃ s, (fillS S0 l ss m)[t]? = some s ∧ (∀ c, s = .val c → a.tmps.getD t undef = c) := by
    intro t ht
    by_cases hw : ∃ (j : Nat) (o' : Oper), j < m ∧ l[j]? = some o' ∧ o'.dst = some t
    · obtain ⟨j, o', hjm, hj, hd⟩ := hw
      have hjl : j < l.length := by omega
      refine ⟨ss[j], fillS_new l S0 ss m t j o' _ hl (by rw [hS]; exact ht) hjm hj hd (by simp) (hone j o' t hj hd), fun c hc => ?_⟩
      have := hI.new j o' _ t hj (by simp [hl, hjl] : ss[j]? = some ss[j]) hd (hall j hjm) (.inl ⟨c, hc⟩)
      rw [hc] at this
      exact this
    · refine ⟨S0[t], ?_, fun c hc => ?_⟩
      · rw [fillS_old l S0 ss m t (fun j o' hjm hj hd => hw ⟨j, o', hjm, hj, hd⟩)]
        simp [hS, ht]
      · have := hI.old t (fun j o' hj hd => by
          have hjl : j < l.length := (List.getElem?_eq_some_iff.1 hj).1
          rcases Nat.lt_or_ge j m with hjm | hjm
          · exact absurd ⟨j, o', hjm, hj, hd⟩ hw
          · exact hnot j hjm hjl) S0[t] (by simp [hS, ht])
        rw [hc] at this
        exact this
  have hact : slAct (fillS S0 l ss m) (fun t => a.tmps.getD t undef) d = a := by
    obtain ⟨tm, df⟩ := a
    have hd : df = d := hI.defers
    have hz : tm.size = n := hI.size
    subst hd
    unfold slAct
    congr 1
    apply Array.ext_getElem?
    intro t
    by_cases ht : t < n
    · obtain ⟨s, h1, h2⟩ := hget t ht
      exact slAct_get2 (a := ⟨tm, df⟩) (d := df) h1 rfl h2 (by rw [hz]; exact ht)
    · rw [Array.getElem?_eq_none (by simp only [List.size_toArray, slVals_length, fillS_length, hS]; omega), Array.getElem?_eq_none (by omega)]
  have := hfin (fun t => a.tmps.getD t undef) w hI.cls (fun j t V hk hjt hV => by
    obtain ⟨o', hj, hd⟩ : ∃ o', l[j]? = some o' ∧ o'.dst = some t := by
      cases hj : l[j]? with
      | none => rw [hj] at hjt; cases hjt
      | some o' => rw [hj] at hjt; exact ⟨o', rfl, hjt⟩
    have hjl : j < l.length := (List.getElem?_eq_some_iff.1 hj).1
    have htn : t < n := (ghostB_spec hB (i := j) (o := o') (by simpa using hj)).lt t hd
    rcases Nat.lt_or_ge j m with hjm | hjm
    · have hnew := fillS_new l S0 ss m t j o' (ss[j]'(by rw [hl]; exact hjl)) hl (by rw [hS]; exact htn) hjm hj hd (by simp) (hone j o' t hj hd)
      have hsj : ss[j]'(by rw [hl]; exact hjl) = .pred V := Option.some.inj (hnew.symm.trans hV)
      have := hI.new j o' _ t hj (by simp [hl, hjl] : ss[j]? = some (ss[j]'(by rw [hl]; exact hjl))) hd (hall j hjm) (.inr (.inl hk))
      rw [hsj] at this
      exact this
    · exfalso
      rw [fillS_old l S0 ss m t (fun i o2 him hi hd2 => by
        have := hone j o' t hj hd i o2 hi hd2
        omega)] at hV
      obtain ⟨c, hc⟩ := hS0 t _ hV
      cases hc)
  rwa [hact] at this
end
theorem Oper.wp_sure {P : Program} {o : Oper} {a : Act} {w : World} {K K' : Act → World → Prop} {Q : Exit → Act → World → Prop} (h : ∀ a w, K a w → K' a w) (hh : o.wp P a w K (fun _ _ _ => False)) : o.wp P a w K' Q := by
  have hno : ¬ LetsOut (fun (_ : Exit) (_ : Act) (_ : World) => False) := by
    rintro ⟨_, _, h⟩
    exact h
  unfold Oper.wp at *
  generalize (execOp a.eval o).run P w = r at *
  cases r with
  | ok n w' =>
    cases n <;> simp only [Oper.upon] at hh ⊢ <;>
      first
        | exact h _ _ hh
        | exact Calls.mono hh (fun e w'' he => by cases e <;> first | exact h _ _ he | exact he.elim | exact (hno he).elim)
        | exact Rows.mono hh (fun _ _ he => h _ _ he)
  | halt x w' => cases x <;> simp only [Oper.upon] at hh ⊢
theorem put_none (a : Act) (v : Value) : a.put none v = a := rfl
section
variable {l : List Oper} {C D : World → Prop} {R R' : World → World → Prop} {bigs preds keeps ms : List Nat} {d : List Deferred} {n : Nat} {S0 ss : List Slot}
theorem wpAny_ghost_tail2 {P : Program} {Q : Exit → Act → World → Prop} (m p tp : Nat) (olast ofin op : Oper) (hlm : l.length = m + 2) (holast : l[m]? = some olast) (hofin : l[m + 1]? = some ofin) (hop : l[p]? = some op) (hpm : p < m) (hdl : olast.dst = none) (hgl : olast.guard = none) (hgf : ofin.guard = none) (hgp : op.guard = none) (hdp : op.dst = some tp)
    (hlook : tp ∉ olast.looksAt l.toArray) (hpure : ∀ ρ, (∃ v, ∀ w, (execOp ρ op).run P w = .ok (.value v) w) ∨ ∀ w, ∃ h w', (execOp ρ op).run P w = .halt h w')
    (hstore : ∀ ρ w, (∃ v w', (execOp ρ olast).run P w = .ok (.value v) w') ∨ (∃ w', (execOp ρ olast).run P w = .ok .skip w') ∨ ∃ h w', (execOp ρ olast).run P w = .halt h w')
    (hB : ghostB l.toArray n = true) (hl : ss.length = l.length) (hS : S0.length = n) (hS0 : ∀ (t : Nat) (s : Slot), S0[t]? = some s → ∃ c, s = Slot.val c)
    (hafter : ∀ j, j < m → j ≠ p → anc ms m j = true) (hafter2 : ∀ j, j ≤ m → anc ms (m + 1) j = true)
    (hD : ∀ w w', C w → C w' → R w w' → D w → D w') (hRr : ∀ w, C w → R w w) (hRr' : ∀ w, C w → R' w w) (hA : ancB l.toArray ms = true) (hG : bigB l.toArray ms bigs preds keeps = true) (hst : ∀ (i : Nat) (s : Slot), ss[i]? = some s → Keeps C R preds i s)
    (hob : ∀ (i : Nat) (o : Oper) (s : Slot), i < m → l[i]? = some o → ss[i]? = some s → Ob P l.toArray C D R R' bigs (aliveM ms bigs i) i o (fillS S0 l ss i) d s)
    (hfin : DoneK l C keeps d (fun a w => olast.wp P a w (fun a' w' => ofin.wp P a' w' (Q .normal) Q) (fun _ _ _ => False)) (fillS S0 l ss m)) :
    ∀ (fuel : Nat) (listed : Array Bool) (a : Act) (w : World), listed.toList.count false ≤ fuel → listed.getD m true = false → listed.getD (m + 1) true = false → Inv l C D bigs keeps d n S0 ss listed a w → wpAny P .any l.toArray Q fuel listed a w := by
  intro fuel
  induction fuel with
  | zero =>
    intro listed a w hc hm _ hI
    exfalso
    have := count_list hm
    omega
  | succ fuel ih =>
    intro listed a w hc hm hm1 hI
    have hsz := hI.lsize
    refine ⟨fun hr => ?_, fun i hi => ?_⟩
    · have := all_listed hB hI.lsize hr m (by omega)
      rw [hm] at this
      cases this
    obtain ⟨hun, o, ho, hall⟩ := mem_ready.1 hi
    have hio : l[i]? = some o := by simpa using ho
    have hil : i < l.length := (List.getElem?_eq_some_iff.1 hio).1
    have hils : i < listed.size := by rw [hI.lsize]; exact hil
    have hcount := count_list hun
    have hobs : ∀ (i : Nat) (o : Oper) (hio : l[i]? = some o) (him : i < m) (hi : i ∈ Region.ready .any l.toArray listed), if Region.wanted o (yielded l.toArray a.tmps) = true then yld P o a.eval w (fun v w' => C w' ∧ eff R R' bigs i w w' ∧ (ss[i]'(by rw [hl, hlm]; omega)).fits v w') else (ss[i]'(by rw [hl, hlm]; omega)).fits undef w := by
      intro i o hio him hi
      have hil : i < l.length := by omega
      have hun := (mem_ready.1 hi).1
      have hsi : ss[i]? = some (ss[i]'(by rw [hl]; exact hil)) := by simp
      have hL := ghostB_spec hB (i := i) (o := o) (by simpa using hio)
      have hsame := fun t ht => hI.same hB hl hS hio hi t ht
      have hO := (hob i o _ him hio hsi) (fun t => a.tmps.getD t undef) w hI.cls (fun hal => by
        refine hI.alive fun b hb => ?_
        have h1 := List.all_eq_true.1 hal b (by simpa using hb)
        simp only [Bool.or_eq_true, beq_iff_eq] at h1
        rcases h1 with h1 | h1
        · rw [h1]; exact hun
        · cases hx : listed.getD b true with
          | false => rfl
          | true =>
            rcases Nat.lt_or_ge b l.length with hbl | hbl
            · have := anc_listed hA hB hI.closed b l[b] (by simp [hbl]) (hI.closed b l[b] (by simp [hbl]) hx) i hil h1
              rw [hun] at this
              cases this
            · have : anc ms b i = false := by
                unfold bigB at hG
                have h4 := List.all_eq_true.1 hG b (by simpa using hb)
                simp only [Bool.and_eq_true, decide_eq_true_eq] at h4
                have := h4.1
                simp at this
                omega
              rw [this] at h1
              cases h1) (fun t V ht hV => by
        have htn : t < n := by
          have := (List.getElem?_eq_some_iff.1 hV).1
          rwa [fillS_length, hS] at this
        obtain ⟨s, h1, h2⟩ := hI.sees hB hl hS hio hi t ht htn
        obtain rfl : s = .pred V := Option.some.inj (h1.symm.trans hV)
        exact h2)
      rw [wanted_same (a := a) hsame] at hO
      unfold yld at hO ⊢
      rwa [exec_same hL.sel hsame] at hO
    rcases Nat.lt_trichotomy i m with him | him | him
    · have hsi : ss[i]? = some (ss[i]'(by rw [hl]; exact hil)) := by simp
      have hO := hobs i o hio him hi
      have hm' : (listed.setIfInBounds i true).getD m true = false := by rw [getD_set_other (by omega)]; exact hm
      have hm1' : (listed.setIfInBounds i true).getD (m + 1) true = false := by rw [getD_set_other (by omega)]; exact hm1
      unfold wpOp
      rw [ho]
      simp only
      by_cases hw : Region.wanted o (yielded l.toArray a.tmps) = true
      · rw [if_pos hw] at hO ⊢
        left
        exact wp_of_yld P hO fun v w' ⟨h1, h2, h3⟩ => ih _ _ _ (by omega) hm' hm1' (hI.step hB hS0 hst hD hA hG hio hsi hi h1 h2 h3)
      · rw [if_neg hw] at hO ⊢
        exact ih _ _ _ (by omega) hm' hm1' (hI.step hB hS0 hst hD hA hG hio hsi hi hI.cls (by unfold eff; split; exact hRr' w hI.cls; exact hRr w hI.cls) hO)
    · subst him
      obtain rfl : o = olast := Option.some.inj (hio.symm.trans holast)
      have hothers : ∀ j, j < i → j ≠ p → listed.getD j true = true := fun j hj hjp => anc_listed hA hB hI.closed i o hio hall j (by omega) (hafter j hj hjp)
      unfold wpOp
      rw [ho]
      simp only
      rw [if_pos (by simp [Region.wanted, hgl])]
      left
      have hcm := count_list (listed := listed.setIfInBounds i true) (i := i + 1) (by rw [getD_set_other (by omega)]; exact hm1)
      by_cases hp : listed.getD p true = true
      · have hend : o.wp P a w (fun a' w' => ofin.wp P a' w' (Q .normal) Q) (fun _ _ _ => False) := hI.endM i (by omega) hB hl hS hS0 hfin (fun j hj => by
          by_cases hjp : j = p
          · rw [hjp]; exact hp
          · exact hothers j hj hjp) (fun j h1 h2 => by
          rcases (by omega : j = i ∨ j = i + 1) with rfl | rfl
          · exact hm
          · exact hm1)
        refine Oper.wp_sure (fun a' w' hq => ?_) hend
        obtain ⟨f, rfl⟩ : ∃ f, fuel = f + 1 := ⟨fuel - 1, by omega⟩
        have hl2 : ∀ j, j < i + 1 → (listed.setIfInBounds i true).getD j true = true := fun j hj => by
          by_cases hji : j = i
          · rw [hji]; exact getD_set_self hils
          · rw [getD_set_other (Ne.symm hji)]
            by_cases hjp : j = p
            · rw [hjp]; exact hp
            · exact hothers j (by omega) hjp
        refine wpAny_next hB hofin hgf (by simpa using hsz) (by rw [getD_set_other (by omega)]; exact hm1) hl2 (fun k hk => ?_) (Oper.wp_mono (fun a2 w2 hq2 => wpAny_done (fun j hj => ?_) hq2) hq)
        · obtain ⟨hku, ok, hok, _⟩ := mem_ready.1 hk
          have hkl : k < l.length := by simpa using (Array.getElem?_eq_some_iff.1 hok).1
          rcases (by omega : k < i + 1 ∨ k = i + 1) with h | h
          · rw [hl2 k h] at hku; cases hku
          · exact h
        · rcases (by omega : j < i + 1 ∨ j = i + 1) with h | h
          · rw [getD_set_other (by omega)]; exact hl2 j h
          · rw [h]; exact getD_set_self (by simp; omega)
      · have hp0 : listed.getD p true = false := by simpa using hp
        have hLp := ghostB_spec hB (i := p) (o := op) (by simpa using hop)
        have hpl : p < l.length := by omega
        have hpr : p ∈ Region.ready .any l.toArray listed := mem_ready.2 ⟨hp0, op, by simpa using hop, fun e he hb => by
          have hlt := hLp.back e he hb
          exact getD_true_false (by omega) (hothers _ (by omega) (by omega))⟩
        have hO := hobs p op hop hpm hpr
        rw [if_pos (by simp [Region.wanted, hgp])] at hO
        unfold yld at hO
        rcases hpure a.eval with ⟨v, hv⟩ | hh
        · rw [hv] at hO
          have hsp : ss[p]? = some (ss[p]'(by rw [hl]; exact hpl)) := by simp
          have hI2 := hI.step hB hS0 hst hD hA hG hop hsp hpr hO.1 hO.2.1 hO.2.2
          have hend : o.wp P (a.put op.dst v) w (fun a' w' => ofin.wp P a' w' (Q .normal) Q) (fun _ _ _ => False) := hI2.endM i (by omega) hB hl hS hS0 hfin (fun j hj => by
            by_cases hjp : j = p
            · rw [hjp]; exact getD_set_self (by omega)
            · rw [getD_set_other (Ne.symm hjp)]; exact hothers j hj hjp) (fun j h1 h2 => by
            rw [getD_set_other (by omega)]
            rcases (by omega : j = i ∨ j = i + 1) with rfl | rfl
            · exact hm
            · exact hm1)
          have hes : execOp (a.put op.dst v).eval o = execOp a.eval o := by
            have hLi := ghostB_spec hB (i := i) (o := o) (by simpa using hio)
            refine exec_same (ops := l.toArray) hLi.sel (fun t ht => ?_)
            have htp : tp ≠ t := fun e => hlook (e ▸ ht)
            rw [hdp]
            show (a.tmps.setIfInBounds tp v)[t]? = a.tmps[t]?
            rw [Array.getElem?_setIfInBounds_ne htp]
          unfold Oper.wp at hend ⊢
          rw [hes] at hend
          have hnext : ∀ w1, ofin.wp P (a.put op.dst v) w1 (Q .normal) Q → wpAny P .any l.toArray Q fuel (listed.setIfInBounds i true) a w1 := by
            intro w1 hq
            have hcp := count_list (listed := listed.setIfInBounds i true) (i := p) (by rw [getD_set_other (by omega)]; exact hp0)
            have hcp2 := count_list (listed := (listed.setIfInBounds i true).setIfInBounds p true) (i := i + 1) (by rw [getD_set_other (by omega), getD_set_other (by omega)]; exact hm1)
            obtain ⟨f, rfl⟩ : ∃ f, fuel = f + 2 := ⟨fuel - 2, by omega⟩
            have hl2 : ∀ j, j < i + 1 → j ≠ p → (listed.setIfInBounds i true).getD j true = true := fun j hj hjp => by
              by_cases hji : j = i
              · rw [hji]; exact getD_set_self hils
              · rw [getD_set_other (Ne.symm hji)]; exact hothers j (by omega) hjp
            have hl3 : ∀ j, j < i + 1 → ((listed.setIfInBounds i true).setIfInBounds p true).getD j true = true := fun j hj => by
              by_cases hjp : j = p
              · rw [hjp]; exact getD_set_self (by simp; omega)
              · rw [getD_set_other (Ne.symm hjp)]; exact hl2 j hj hjp
            refine wpAny_next (fuel := f + 1) hB hop hgp (by simpa using hsz) (by rw [getD_set_other (by omega)]; exact hp0) (fun j hj => hl2 j (by omega) (by omega)) (fun k hk => ?_) ?_
            · obtain ⟨hku, ok, hok, hkall⟩ := mem_ready.1 hk
              have hkl : k < l.length := by simpa using (Array.getElem?_eq_some_iff.1 hok).1
              by_cases hkp : k = p
              · exact hkp
              · exfalso
                rcases (by omega : k < i + 1 ∨ k = i + 1) with h | h
                · rw [hl2 k h hkp] at hku; cases hku
                · subst h
                  have hcl : ∀ j o', l[j]? = some o' → (listed.setIfInBounds i true).getD j true = true → ∀ e ∈ o'.after, Region.binds .any e = true → (listed.setIfInBounds i true).getD e.on false = true := fun j o' hj hx e he hb => by
                    by_cases hji : j = i
                    · subst hji
                      obtain rfl : o' = o := Option.some.inj (hj.symm.trans hio)
                      have h9 := hall e he hb
                      by_cases hei : e.on = j
                      · rw [hei]; exact getD_set_self hils
                      · rw [getD_set_other (Ne.symm hei)]; exact h9
                    · rw [getD_set_other (Ne.symm hji)] at hx
                      have h9 := hI.closed j o' hj hx e he hb
                      by_cases hei : e.on = i
                      · rw [hei]; exact getD_set_self hils
                      · rw [getD_set_other (Ne.symm hei)]; exact h9
                  have := anc_listed hA hB hcl (i + 1) ok (by simpa using hok) hkall p (by omega) (hafter2 p (by omega))
                  rw [getD_set_other (by omega), hp0] at this
                  cases this
            · unfold Oper.wp
              rw [hv]
              show wpAny P .any l.toArray Q (f + 1) ((listed.setIfInBounds i true).setIfInBounds p true) (a.put op.dst v) w1
              refine wpAny_next hB hofin hgf (by simpa using hsz) (by rw [getD_set_other (by omega), getD_set_other (by omega)]; exact hm1) hl3 (fun k hk => ?_) (Oper.wp_mono (fun a2 w2 hq2 => wpAny_done (fun j hj => ?_) hq2) hq)
              · obtain ⟨hku, ok, hok, _⟩ := mem_ready.1 hk
                have hkl : k < l.length := by simpa using (Array.getElem?_eq_some_iff.1 hok).1
                rcases (by omega : k < i + 1 ∨ k = i + 1) with h | h
                · rw [hl3 k h] at hku; cases hku
                · exact h
              · rcases (by omega : j < i + 1 ∨ j = i + 1) with h | h
                · rw [getD_set_other (by omega)]; exact hl3 j h
                · rw [h]; exact getD_set_self (by simp; omega)
          rcases hstore a.eval w with ⟨u, w1, hr⟩ | ⟨w1, hr⟩ | ⟨x, w1, hr⟩
          · rw [hr] at hend ⊢
            simp only [Oper.upon, hdl, put_none] at hend ⊢
            exact hnext w1 hend
          · rw [hr] at hend ⊢
            simp only [Oper.upon, hdl, put_none] at hend ⊢
            exact hnext w1 hend
          · rw [hr] at hend
            cases x <;> simp only [Oper.upon] at hend
        · obtain ⟨x, w1, hr⟩ := hh w
          rw [hr] at hO
          exact hO.elim
    · exfalso
      have e : i = m + 1 := by omega
      subst e
      have := anc_listed hA hB hI.closed (m + 1) o hio hall m (by omega) (hafter2 m (Nat.le_refl _))
      rw [hm] at this
      cases this
end
theorem store_shape {P : Program} {o : Oper} {T : TypeId} {x y : Operand} (ho : o.op = .store T x y) (ρ : Operand → Value) (w : World) : (∃ v w', (execOp ρ o).run P w = .ok (.value v) w') ∨ (∃ w', (execOp ρ o).run P w = .ok .skip w') ∨ ∃ h w', (execOp ρ o).run P w = .halt h w' := by
  unfold execOp
  simp only [ho, Sem.run_bind]
  cases h : (Instr.storeAt T (ρ x) (ρ y)).run P w with
  | ok u w' => first | exact .inr (.inl ⟨w', rfl⟩) | exact .inl ⟨_, w', rfl⟩
  | halt h' w' => exact .inr (.inr ⟨h', w', rfl⟩)
theorem extract_shape {P : Program} {o : Oper} {x : Operand} {i : Nat} (ho : o.op = .extract x i) (ρ : Operand → Value) : (∃ v, ∀ w, (execOp ρ o).run P w = .ok (.value v) w) ∨ ∀ w, ∃ h w', (execOp ρ o).run P w = .halt h w' := by
  have key : (∃ v, ∀ w, (Instr.extract (ρ x) i).run P w = .ok v w) ∨ ∀ w, ∃ h w', (Instr.extract (ρ x) i).run P w = .halt h w' := by
    cases h : ρ x with
    | tuple vs =>
      cases h2 : vs[i]? with
      | some v => exact .inl ⟨v, fun w => by simp [Instr.extract, h2]⟩
      | none => exact .inr fun w => ⟨.stuck "Extract: no such component", w, by simp [Instr.extract, h2]⟩
    | _ => exact .inr fun w => ⟨.stuck "Extract: tuple expected", w, by simp [Instr.extract]⟩
  unfold execOp
  simp only [ho, Sem.run_bind]
  rcases key with ⟨v, hv⟩ | hh
  · exact .inl ⟨v, fun w => by rw [hv]; rfl⟩
  · exact .inr fun w => by
      obtain ⟨h, w', e⟩ := hh w
      exact ⟨h, w', by rw [e]; rfl⟩
def isStoreB : Op → Bool
  | .store .. => true
  | _ => false
def isExtractB : Op → Bool
  | .extract .. => true
  | _ => false
def tail2B (l : List Oper) (m p : Nat) : Bool := match l[m]?, l[m + 1]?, l[p]? with
  | some a, some b, some c => decide (l.length = m + 2) && decide (p < m) && isStoreB a.op && a.dst.isNone && a.guard.isNone && b.guard.isNone && c.guard.isNone && isExtractB c.op && (match c.dst with | some t => !(a.looksAt l.toArray).contains t | none => false) &&
    ((List.range m).all fun j => j == p || anc (ancs l.toArray) m j) && ((List.range (m + 1)).all fun j => anc (ancs l.toArray) (m + 1) j)
  | _, _, _ => false
theorem wp_region_tail2 {P : Program} {l : List Oper} {C D : World → Prop} {R R' : World → World → Prop} {id : Nat} {Q : Exit → Act → World → Prop} {a : Act} {w : World} (m p : Nat) (olast ofin : Oper) (holast : l[m]? = some olast) (hofin : l[m + 1]? = some ofin) (hT : tail2B l m p = true) (bigs preds keeps : List Nat) (hm : P.follows .mixedOrders = true) (hB : ghostB l.toArray a.tmps.size = true)
    (hA : ancB l.toArray (ancs l.toArray) = true) (hG : bigB l.toArray (ancs l.toArray) bigs preds keeps = true) (hC : C { w with drawn := w.drawn + 1 }) (hD0 : D { w with drawn := w.drawn + 1 }) (hD : ∀ w w', C w → C w' → R w w' → D w → D w') (hRr : ∀ w, C w → R w w) (hRr' : ∀ w, C w → R' w w)
    (h : GW P l.toArray C D R R' bigs preds a.defers (DoneK l C keeps a.defers (fun a w => olast.wp P a w (fun a' w' => ofin.wp P a' w' (Q .normal) Q) (fun _ _ _ => False))) 0 (l.take m) (initS a)) : (Code.region id l.toArray true).wp P Q a w := by
  unfold tail2B at hT
  rw [holast, hofin] at hT
  cases hop : l[p]? with
  | none => rw [hop] at hT; cases hT
  | some op =>
  rw [hop] at hT
  simp only [Bool.and_eq_true, decide_eq_true_eq, Option.isNone_iff_eq_none] at hT
  obtain ⟨⟨⟨⟨⟨⟨⟨⟨⟨⟨hlm, hpm⟩, hst⟩, hdl⟩, hgl⟩, hgf⟩, hgp⟩, hex⟩, hlk⟩, haf⟩, haf2⟩ := hT
  obtain ⟨tp, hdp⟩ : ∃ tp, op.dst = some tp := by
    cases hd : op.dst with
    | none => rw [hd] at hlk; cases hlk
    | some t => exact ⟨t, rfl⟩
  rw [hdp] at hlk
  have hlook : tp ∉ olast.looksAt l.toArray := by simpa using hlk
  have hafter : ∀ j, j < m → j ≠ p → anc (ancs l.toArray) m j = true := fun j hj hjp => by
    have := List.all_eq_true.1 haf j (List.mem_range.2 hj)
    simp only [Bool.or_eq_true, beq_iff_eq] at this
    exact this.resolve_left hjp
  have hafter2 : ∀ j, j ≤ m → anc (ancs l.toArray) (m + 1) j = true := fun j hj => List.all_eq_true.1 haf2 j (List.mem_range.2 (by omega))
  obtain ⟨ss, h1, h2, h3⟩ := GW.extract P l.toArray C D R R' bigs preds (l.take m) 0 _ h
  simp only [Nat.zero_add] at h2
  have hml : (l.take m).length = m := by simp [hlm]
  rw [hml] at h1 h3
  have hssl : (ss ++ [Slot.val undef, Slot.val undef]).length = l.length := by simp [h1, hlm]
  have hpre : ∀ i, i ≤ m → fillS (initS a) l (ss ++ [Slot.val undef, Slot.val undef]) i = fillS (initS a) (l.take m) ss i := by
    intro i hi
    rw [show ss ++ [Slot.val undef, Slot.val undef] = (ss ++ [Slot.val undef]) ++ [Slot.val undef] from by simp, fillS_pre l (m + 1) (initS a) (ss ++ [Slot.val undef]) (Slot.val undef) i (by omega) (by simp [h1])]
    have h9 := fillS_pre (l.take (m + 1)) m (initS a) ss (.val undef) i hi (by omega)
    rw [h9, List.take_take, Nat.min_eq_left (by omega)]
  refine wp_region_any hm (wpAny_ghost_tail2 (D := D) (R := R) (R' := R') (bigs := bigs) (preds := preds) (keeps := keeps) (ms := ancs l.toArray) (d := a.defers) (n := a.tmps.size) (S0 := initS a) (ss := ss ++ [.val undef, .val undef]) m p tp olast ofin op hlm holast hofin hop hpm hdl hgl hgf hgp hdp hlook ?_ ?_ hB hssl (by simp [initS]) (fun t s hs => ⟨_, (initS_get hs).1⟩) hafter hafter2 hD hRr hRr' hA hG ?_ ?_ ?_ _ _ _ _ ?_ ?_ ?_ ?_)
  · intro ρ
    cases ho : op.op <;> rw [ho] at hex <;> first | (cases hex; done) | exact extract_shape ho ρ
  · intro ρ w
    cases ho : olast.op <;> rw [ho] at hst <;> first | (cases hst; done) | exact store_shape ho ρ w
  · intro i s hs
    by_cases him : i < m
    · rw [List.getElem?_append_left (by omega)] at hs
      exact (h2 i ((l.take m)[i]'(by omega)) s (by simp [hml, him]) hs).1
    · rw [List.getElem?_append_right (by omega)] at hs
      have hi2 : i - ss.length < 2 := by
        have := (List.getElem?_eq_some_iff.1 hs).1
        simpa using this
      have : s = .val undef := by
        rcases (by omega : i - ss.length = 0 ∨ i - ss.length = 1) with e | e <;> rw [e] at hs <;> simpa using hs.symm
      exact .inl ⟨_, this⟩
  · intro i o s him ho hs
    rw [List.getElem?_append_left (by omega)] at hs
    have := (h2 i o s (by rw [List.getElem?_take_of_lt him]; exact ho) hs).2
    rwa [hpre i (by omega)]
  · rw [hpre m (Nat.le_refl _)]
    exact h3
  · simp
  · simp [hlm]
  · simp [hlm]
  · refine ⟨hC, fun _ => hD0, rfl, rfl, by simp, ?_, ?_, ?_⟩
    · intro j o hj hx
      have hjl : j < l.length := (List.getElem?_eq_some_iff.1 hj).1
      simp [hjl] at hx
    · intro j o s t hj _ _ hx
      have hjl : j < l.length := (List.getElem?_eq_some_iff.1 hj).1
      simp [hjl] at hx
    · intro t _ s hs
      rw [(initS_get hs).1]
      rfl
/-- The same, with a frame of what is at hand; new things alone are laid before the store. -/
theorem wp_region_memT2 {P : Program} {l : List Oper} {a : Act} {w w0 : World} {own : Nat → Prop} {L : List Item} {Q : Exit → Act → World → Prop} {id : Nat} (m p : Nat) (bigs preds keeps : List Nat) (olast ofin : Oper) (holast : l[m]? = some olast) (hofin : l[m + 1]? = some ofin) (hM : Mem w0 own w L) (hT : tail2B l m p = true) (hm : P.follows .mixedOrders = true) (hB : ghostB l.toArray a.tmps.size = true)
    (hA : ancB l.toArray (ancs l.toArray) = true) (hG : bigB l.toArray (ancs l.toArray) bigs preds keeps = true)
    (h : GW P l.toArray (CM w0 own L w.heap.size) Any1 Grows (GrowsB w.heap.size) bigs preds a.defers (DoneK l (CM w0 own L w.heap.size) keeps a.defers (fun a w => olast.wp P a w (fun a' w' => ofin.wp P a' w' (Q .normal) Q) (fun _ _ _ => False))) 0 (l.take m) (initS a)) : (Code.region id l.toArray true).wp P Q a w :=
  wp_region_tail2 m p olast ofin holast hofin hT (C := CM w0 own L w.heap.size) (D := Any1) (R := Grows) (R' := GrowsB w.heap.size) bigs preds keeps hm hB hA hG (cm_start hM) trivial (fun _ _ _ _ _ h => h) cm_quiet.1 cm_quiet.2 h
end Go.Proofs.Ytgdfdombcngpnaa
