/- The padding: the last row of bytes as it is laid, and what is asked of it; with no program in sight. -/
import Derived.Test.YtkcmnhmbpamehaaSha
namespace Go.Proofs.Ytkcmnhmbpamehaa

theorem sched_congr (l l' : List (BitVec 8)) (h : ∀ i, i < 64 → l.getD i 0 = l'.getD i 0) (n : Nat) : sched l n = sched l' n := by
  induction n with
  | zero => rfl
  | succ n ih =>
    have hw : ∀ W : List (BitVec 32), wnext l W = wnext l' W := by
      intro W
      unfold wnext
      by_cases hn : W.length < 16
      · rw [if_pos hn, if_pos hn, h _ (by omega), h _ (by omega), h _ (by omega), h _ (by omega)]
      · rw [if_neg hn, if_neg hn]
    simp only [sched, ih]
    rw [hw]
theorem block_congr (s : St) (l l' : List (BitVec 8)) (h : ∀ i, i < 64 → l.getD i 0 = l'.getD i 0) : block s l = block s l' := by
  unfold block
  rw [wsched_eq, wsched_eq, sched_congr l l' h]
theorem getD_drop (l : List (BitVec 8)) (a i : Nat) : (l.drop a).getD i 0 = l.getD (a + i) 0 := by
  simp [List.getD_eq_getElem?_getD, List.getElem?_drop]
theorem blocks_congr (l l' : List (BitVec 8)) (s : St) (k : Nat) (h : ∀ i, i < 64 * k → l.getD i 0 = l'.getD i 0) : blocks l s k = blocks l' s k := by
  induction k with
  | zero => rfl
  | succ k ih =>
    simp only [blocks]
    rw [ih (fun i hi => h i (by omega))]
    exact block_congr _ _ _ (fun i hi => by rw [getD_drop, getD_drop]; exact h _ (by omega))
theorem blocks_add (l : List (BitVec 8)) (s : St) (a b : Nat) : blocks l s (a + b) = blocks (l.drop (64 * a)) (blocks l s a) b := by
  induction b with
  | zero => rfl
  | succ b ih =>
    rw [show a + (b + 1) = (a + b) + 1 from by omega]
    simp only [blocks]
    rw [ih, List.drop_drop, show 64 * a + 64 * b = 64 * (a + b) from by omega]

def pad0 (rest : List (BitVec 8)) : List (BitVec 8) := rest ++ List.replicate (128 - rest.length) 0
/-- k of the number's bytes are laid, the lowest one at the end e, the next one before it. -/
def fill (cs : List (BitVec 8)) (N e : Nat) : Nat → List (BitVec 8)
  | 0 => cs
  | k + 1 => (fill cs N e k).set (e - 1 - k) (BitVec.ofNat 8 (N / 2 ^ (8 * k)))
theorem fill_length (cs : List (BitVec 8)) (N e k : Nat) : (fill cs N e k).length = cs.length := by
  induction k with
  | zero => rfl
  | succ k ih => simp [fill, ih]
theorem pad0_length (rest : List (BitVec 8)) (h : rest.length ≤ 128) : (pad0 rest).length = 128 := by simp [pad0]; omega
theorem getD_set (l : List (BitVec 8)) (j i : Nat) (x : BitVec 8) (hj : j < l.length) : (l.set j x).getD i 0 = if j = i then x else l.getD i 0 := by
  simp only [List.getD_eq_getElem?_getD, List.getElem?_set]
  by_cases h : j = i
  · subst h; simp [hj]
  · simp [h]
theorem fill_getD (cs : List (BitVec 8)) (N e i : Nat) (he : e ≤ cs.length) (k : Nat) (hk : k ≤ e) :
    (fill cs N e k).getD i 0 = if e - k ≤ i ∧ i < e then BitVec.ofNat 8 (N / 2 ^ (8 * (e - 1 - i))) else cs.getD i 0 := by
  induction k with
  | zero => simp only [fill]; rw [if_neg (by omega)]
  | succ k ih =>
    simp only [fill]
    rw [getD_set _ _ _ _ (by rw [fill_length]; omega), ih (by omega)]
    by_cases h1 : e - 1 - k = i
    · rw [if_pos h1, if_pos (by omega), show e - 1 - i = k from by omega]
    · rw [if_neg h1]
      by_cases h2 : e - k ≤ i ∧ i < e
      · rw [if_pos h2, if_pos (by omega)]
      · rw [if_neg h2, if_neg (by omega)]
def lastRow (rest : List (BitVec 8)) (N e : Nat) (k : Nat) : List (BitVec 8) := fill ((pad0 rest).set rest.length 0x80) N e k
theorem lastRow_length (rest : List (BitVec 8)) (N e k : Nat) (h : rest.length ≤ 128) : (lastRow rest N e k).length = 128 := by
  simp [lastRow, fill_length, pad0_length rest h]
theorem lastRow_getD (rest : List (BitVec 8)) (N e i : Nat) (hr : rest.length < 128) (he : e ≤ 128) (h8 : 8 ≤ e) :
    (lastRow rest N e 8).getD i 0 = if e - 8 ≤ i ∧ i < e then BitVec.ofNat 8 (N / 2 ^ (8 * (e - 1 - i))) else if rest.length = i then 0x80 else rest.getD i 0 := by
  unfold lastRow
  rw [fill_getD _ _ _ _ (by simp [pad0_length rest (by omega)]; exact he) _ h8, getD_set _ _ _ _ (by rw [pad0_length rest (by omega)]; exact hr)]
  congr 2
  unfold pad0
  simp only [List.getD_eq_getElem?_getD, List.getElem?_append, List.getElem?_replicate]
  by_cases h : i < rest.length
  · simp [h]
  · simp only [h, if_false]
    by_cases h2 : i - rest.length < 128 - rest.length
    · simp [h2, List.getElem?_eq_none (show rest.length ≤ i by omega)]
    · simp [h2, List.getElem?_eq_none (show rest.length ≤ i by omega)]
theorem be64_getD (N i : Nat) (hi : i < 8) : (be64 N).getD i 0 = BitVec.ofNat 8 (N / 2 ^ (8 * (7 - i))) := by
  simp [be64, List.getD_eq_getElem?_getD, hi]
theorem padded_length (l : List (BitVec 8)) : (padded l).length = l.length + 1 + noughts l.length + 8 := by simp [padded, be64]; omega
theorem padded_getD (l : List (BitVec 8)) (i : Nat) (hi : i < l.length + 1 + noughts l.length + 8) :
    (padded l).getD i 0 = if i < l.length then l.getD i 0 else if i = l.length then 0x80 else if i < l.length + 1 + noughts l.length then 0
      else BitVec.ofNat 8 (8 * l.length / 2 ^ (8 * (7 - (i - (l.length + 1 + noughts l.length))))) := by
  unfold padded
  by_cases h1 : i < l.length
  · rw [if_pos h1]
    simp only [List.getD_eq_getElem?_getD, List.append_assoc]
    rw [List.getElem?_append_left h1]
  · rw [if_neg h1]
    by_cases h2 : i = l.length
    · rw [if_pos h2]
      simp only [List.getD_eq_getElem?_getD, List.append_assoc]
      rw [List.getElem?_append_right (by omega), h2, Nat.sub_self]
      rfl
    · rw [if_neg h2]
      by_cases h3 : i < l.length + 1 + noughts l.length
      · rw [if_pos h3]
        simp only [List.getD_eq_getElem?_getD]
        rw [List.getElem?_append_left (by simp; omega), List.getElem?_append_right (by simp; omega), List.getElem?_replicate]
        split <;> rfl
      · rw [if_neg h3, ← be64_getD _ _ (by omega)]
        simp only [List.getD_eq_getElem?_getD]
        have e : (l ++ [0x80] ++ List.replicate (noughts l.length) (0 : BitVec 8)).length = l.length + 1 + noughts l.length := by simp; omega
        rw [List.getElem?_append_right (by rw [e]; omega), e]
/-- How far the last row goes. -/
def endOf (r : Nat) : Nat := if 56 ≤ r then 128 else 64
theorem endOf_noughts (r m : Nat) (hr : r < 64) : r + 1 + noughts (r + 64 * m) + 8 = endOf r := by
  unfold noughts endOf
  rw [show (r + 64 * m) % 64 = r from by omega]
  split <;> omega
/-- What is laid in the last row is what is asked. -/
theorem sha_last (l : List (BitVec 8)) (m r : Nat) (h : r + 64 * m = l.length) (hr : r < 64) :
    blocks (lastRow (l.drop (64 * m)) (8 * l.length) (endOf r) 8) (blocks l St.start m) (endOf r / 64) = blocks (padded l) St.start ((padded l).length / 64) := by
  have hlen : (l.drop (64 * m)).length = r := by rw [List.length_drop]; omega
  have hz := endOf_noughts r m hr
  rw [h] at hz
  have he : endOf r = 64 ∨ endOf r = 128 := by unfold endOf; split <;> omega
  have hpl : (padded l).length / 64 = m + endOf r / 64 := by rw [padded_length]; rcases he with e | e <;> rw [e] at hz ⊢ <;> omega
  rw [hpl, blocks_add]
  rw [blocks_congr l (padded l) St.start m (fun i hi => by rw [padded_getD l i (by omega), if_pos (by omega)])]
  refine blocks_congr _ _ _ _ (fun i hi => ?_)
  have hi' : i < endOf r := by rcases he with e | e <;> rw [e] at hi ⊢ <;> omega
  rw [lastRow_getD _ _ _ _ (by rw [hlen]; omega) (by omega) (by omega), getD_drop l, getD_drop (padded l), padded_getD l _ (by omega), hlen]
  by_cases h1 : endOf r - 8 ≤ i
  · rw [if_pos ⟨h1, hi'⟩, if_neg (by omega), if_neg (by omega), if_neg (by omega), show 7 - (64 * m + i - (l.length + 1 + noughts l.length)) = endOf r - 1 - i from by omega]
  · rw [if_neg (by omega)]
    by_cases h2 : r = i
    · rw [if_pos h2, if_neg (by omega), if_pos (by omega)]
    · rw [if_neg h2]
      by_cases h3 : i < r
      · rw [if_pos (by omega)]
      · rw [if_neg (by omega), if_neg (by omega), if_pos (by omega)]
        simp only [List.getD_eq_getElem?_getD]
        rw [List.getElem?_eq_none (by omega)]; rfl
end Go.Proofs.Ytkcmnhmbpamehaa
