/- plog's laws: PlogGaps. -/
import Derived.Test.YtfecapcjocomkaaPlogV5
namespace Go.Proofs.Ytfecapcjocomkaa
open Go.RowKit Go.MapKept
set_option linter.unusedSimpArgs false
set_option linter.unusedVariables false

/-- A log of one transaction's records, each of one byte. -/
def bitv (b : Bool) : List (BitVec 8) := [if b then 1 else 0]
theorem bitv_inj (a b : Bool) : bitv a = bitv b ↔ a = b := by cases a <;> cases b <;> decide
def gpRecs (had : List Bool) : List Rec := had.mapIdx fun j b => (⟨3, 2, 1, (j : Int), bitv b⟩ : Rec)
def gp (had : List Bool) : PL := ⟨gpRecs had, if had.length = 0 then [] else [⟨3, 2, 1, 0, 0⟩], (List.replicate 8 (-1)).set 3 2⟩
theorem gp_start : PL.empty.learn 3 2 = (gp [], 0) := rfl
theorem gpRecs_len (had : List Bool) : (gpRecs had).length = had.length := by simp [gpRecs]
theorem gpRecs_get (had : List Bool) (i : Nat) (h : i < had.length) : (gpRecs had)[i]'(by rw [gpRecs_len]; exact h) = ⟨3, 2, 1, (i : Int), bitv had[i]⟩ := by simp [gpRecs]
theorem gpRecs_snoc (had : List Bool) (b : Bool) : gpRecs (had ++ [b]) = gpRecs had ++ [⟨3, 2, 1, (had.length : Int), bitv b⟩] := by simp [gpRecs]
theorem gp_mem {had : List Bool} {x : Rec} (hx : x ∈ gpRecs had) : ∃ (i : Nat) (h : i < had.length), x = ⟨3, 2, 1, (i : Int), bitv had[i]⟩ := by
  obtain ⟨i, hi, rfl⟩ := List.mem_iff_getElem.1 hx
  have hi' : i < had.length := by rwa [gpRecs_len] at hi
  exact ⟨i, hi', gpRecs_get had i hi'⟩
theorem gp_meant (had : List Bool) : (gpRecs had).filter (meant 3 2) = gpRecs had := by
  rw [List.filter_eq_self]
  intro x hx
  obtain ⟨i, _, rfl⟩ := gp_mem hx
  rfl
theorem gp_barred (had : List Bool) : (gp had).barred 3 2 1 = false := by
  unfold PL.barred gp
  simp only
  split <;> rfl
theorem gp_ep (had : List Bool) : (gp had).ep 3 = 2 := rfl
theorem gp_spanAt (had : List Bool) : (gp had).spanAt 3 2 1 = if had.length = 0 then -1 else 0 := by
  unfold PL.spanAt gp
  by_cases h : had.length = 0 <;> simp [h]
theorem gp_none (had : List Bool) (k : Nat) (hk : had.length ≤ k) : (gpRecs had).findIdx? (fun x => decide (x.p = 3) && decide (x.e = 2) && decide (x.s = (k : Int))) = none := by
  rw [List.findIdx?_eq_none_iff]
  intro x hx
  obtain ⟨i, hi, rfl⟩ := gp_mem hx
  simp
  omega
theorem gp_some (had : List Bool) (k : Nat) (hk : k < had.length) : (gpRecs had).findIdx? (fun x => decide (x.p = 3) && decide (x.e = 2) && decide (x.s = (k : Int))) = some k := by
  rw [List.findIdx?_eq_some_iff_getElem]
  have hl : k < (gpRecs had).length := by rw [gpRecs_len]; exact hk
  refine ⟨hl, ?_, fun j hj => ?_⟩
  · rw [gpRecs_get had k hk]; simp
  · rw [gpRecs_get had j (by omega)]; simp; omega
theorem gp_rec (k : Nat) (b : Bool) (hk : k ≤ 15) : PL.isRec ⟨3, 2, 1, (k : Int), bitv b⟩ = true := by
  simp [PL.isRec, PL.isProd, PL.isTxn, bitv]
  omega
theorem gp_next_seq (had : List Bool) (h : (gp had).Ok) : (gp had).nextSeq 3 2 = had.length := by
  rw [nextSeq_len (gp had) 3 2 (h.seqs 3 2)]
  show (((gpRecs had).filter (meant 3 2)).length : Int) = had.length
  rw [gp_meant, gpRecs_len]
/-- A number that is there. -/
theorem gp_less (had : List Bool) (k : Nat) (b : Bool) (hk : k < had.length) (h15 : k ≤ 15) : (gp had).append ⟨3, 2, 1, (k : Int), bitv b⟩ = if had[k] = b then (gp had, (k : Int), 0) else (gp had, 0, 1) := by
  have hf : (gp had).recs.findIdx? (fun x => decide (x.p = 3) && decide (x.e = 2) && decide (x.s = (k : Int))) = some k := gp_some had k hk
  have hg : ∀ r, (gp had).recs.getD k r = ⟨3, 2, 1, (k : Int), bitv had[k]⟩ := fun r => by
    show (gpRecs had).getD k r = _
    rw [List.getD_eq_getElem?_getD, List.getElem?_eq_getElem (by rw [gpRecs_len]; exact hk), gpRecs_get had k hk]
    rfl
  unfold PL.append
  rw [gp_rec k b h15]
  simp only [Bool.true_eq_false, Bool.false_eq_true, if_false, gp_ep, hf, hg, bitv_inj, true_and]
  rw [if_neg (by decide), if_neg (by decide), if_neg (by decide)]
/-- One behind the next. -/
theorem gp_more (had : List Bool) (k : Nat) (b : Bool) (h : (gp had).Ok) (hk : had.length < k) (h15 : k ≤ 15) : (gp had).append ⟨3, 2, 1, (k : Int), bitv b⟩ = (gp had, 0, 8) := by
  have hf : (gp had).recs.findIdx? (fun x => decide (x.p = 3) && decide (x.e = 2) && decide (x.s = (k : Int))) = none := gp_none had k (by omega)
  unfold PL.append
  rw [gp_rec k b h15]
  simp only [Bool.true_eq_false, Bool.false_eq_true, if_false, gp_ep, hf, gp_next_seq had h]
  rw [if_neg (by decide), if_neg (by decide), if_neg (by decide), if_pos (by omega)]
/-- The next. -/
theorem gp_next (had : List Bool) (b : Bool) (h : (gp had).Ok) (h15 : had.length ≤ 15) : (gp had).append ⟨3, 2, 1, (had.length : Int), bitv b⟩ = (gp (had ++ [b]), (had.length : Int), 0) := by
  have hf : (gp had).recs.findIdx? (fun x => decide (x.p = 3) && decide (x.e = 2) && decide (x.s = (had.length : Int))) = none := gp_none had _ (Nat.le_refl _)
  have hl : (gp had).recs.length = had.length := gpRecs_len had
  unfold PL.append
  rw [gp_rec _ b h15]
  simp only [Bool.true_eq_false, Bool.false_eq_true, if_false, gp_ep, hf, gp_next_seq had h, gp_barred, hl, ne_eq, not_true_eq_false]
  rw [if_neg (by decide), if_neg (by decide), if_neg (by decide), if_neg (by omega), gp_spanAt]
  congr 1
  unfold gp
  rw [gpRecs_snoc, if_neg (by simp : ¬ (had ++ [b]).length = 0)]
  by_cases h0 : had.length = 0
  · simp [h0]
  · simp [h0]
theorem gp_ok0 : (gp []).Ok := by
  have := ok_learn ok_empty 3 2
  rw [gp_start] at this
  exact this
theorem gp_ok1 {had : List Bool} (h : (gp had).Ok) (b : Bool) (h15 : had.length ≤ 15) : (gp (had ++ [b])).Ok := by
  have := ok_append h ⟨3, 2, 1, (had.length : Int), bitv b⟩
  rw [gp_next had b h h15] at this
  exact this
theorem gp_spans (had : List Bool) : (gp had).spans.length ≤ 1000000 := by unfold gp; simp only; split <;> simp
end Go.Proofs.Ytfecapcjocomkaa
