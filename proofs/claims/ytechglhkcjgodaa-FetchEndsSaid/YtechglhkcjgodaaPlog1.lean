/- plog: its memory; the small functions. -/
import Derived.Test.YtechglhkcjgodaaChecked
import Derived.Test.YtechglhkcjgodaaIMap
import Derived.Test.YtechglhkcjgodaaPlogM
import Derived.Stop.BytesEq
import Derived.Deep.MidRow
namespace Go.Proofs.Ytechglhkcjgodaa
open Go.RowKit
set_option linter.unusedSimpArgs false

def recVals (r : Rec) (v : Value) : List Value := [.int .i64 r.p, .int .i64 r.e, .int .i64 r.t, .int .i64 r.s, v]
def spnVals (s : Spn) : List Value := [.int .i64 s.p, .int .i64 s.e, .int .i64 s.t, .int .i64 s.f, .int .i64 s.k]
def spnCells (l : List Spn) : List Value := l.flatMap spnVals
def recCells : List Rec → List Value → List Value
  | r :: rs, v :: vs => recVals r v ++ recCells rs vs
  | _, _ => []
theorem spnCells_length (l : List Spn) : (spnCells l).length = l.length * 5 := by
  induction l with
  | nil => rfl
  | cons s l ih =>
    have e : spnCells (s :: l) = spnVals s ++ spnCells l := by simp [spnCells]
    rw [e, List.length_append, ih, List.length_cons]
    simp [spnVals]
    omega
theorem spnCells_append (l m : List Spn) : spnCells (l ++ m) = spnCells l ++ spnCells m := by simp [spnCells]
theorem spnCells_get (l : List Spn) : ∀ (i : Nat) (hi : i < l.length) (j : Nat), j < 5 → (spnCells l)[i * 5 + j]? = (spnVals l[i])[j]? := by
  induction l with
  | nil => intro i hi; simp at hi
  | cons s l ih =>
    intro i hi j hj
    have e : spnCells (s :: l) = spnVals s ++ spnCells l := by simp [spnCells]
    rw [e]
    cases i with
    | zero => rw [List.getElem?_append_left (by simp [spnVals]; omega)]; simp
    | succ i =>
      rw [List.getElem?_append_right (by simp [spnVals]; omega)]
      have := ih i (by simpa using hi) j hj
      rw [show (i + 1) * 5 + j - (spnVals s).length = i * 5 + j from by simp [spnVals]; omega]
      simpa using this
theorem recCells_length : ∀ (l : List Rec) (vs : List Value), vs.length = l.length → (recCells l vs).length = l.length * 5
  | [], [], _ => rfl
  | [], _ :: _, h => by simp at h
  | _ :: _, [], h => by simp at h
  | r :: l, v :: vs, h => by
    have := recCells_length l vs (by simpa using h)
    simp [recCells, recVals, this]
    omega
theorem recCells_append : ∀ (l m : List Rec) (vs us : List Value), vs.length = l.length → recCells (l ++ m) (vs ++ us) = recCells l vs ++ recCells m us
  | [], m, [], us, _ => rfl
  | [], _, _ :: _, _, h => by simp at h
  | _ :: _, _, [], _, h => by simp at h
  | r :: l, m, v :: vs, us, h => by
    have := recCells_append l m vs us (by simpa using h)
    simp [recCells, this]
theorem recCells_get : ∀ (l : List Rec) (vs : List Value) (h : vs.length = l.length) (i : Nat) (hi : i < l.length) (j : Nat), j < 5 → (recCells l vs)[i * 5 + j]? = (recVals l[i] (vs[i]'(by omega)))[j]?
  | [], _, _, i, hi, _, _ => by simp at hi
  | _ :: _, [], h, _, _, _, _ => by simp at h
  | r :: l, v :: vs, h, i, hi, j, hj => by
    cases i with
    | zero => rw [recCells, List.getElem?_append_left (by simp [recVals]; omega)]; simp
    | succ i =>
      rw [recCells, List.getElem?_append_right (by simp [recVals]; omega)]
      have := recCells_get l vs (by simpa using h) i (by simpa using hi) j hj
      rw [show (i + 1) * 5 + j - (recVals r v).length = i * 5 + j from by simp [recVals]; omega]
      simpa using this
/-- A slice of bytes as a value. -/
def ValOf (w : World) (v : Value) (l : List (BitVec 8)) : Prop := ∃ A n c, v = .slice A n c ∧ n ≤ c ∧ Bytes w w.heap.size A n l

theorem isProducer_any (p e : Int) (w : World) : Calls Try.prog 44 #[.int .i64 p, .int .i64 e] w fun x w' => x = .returned (.bool (PL.isProd p e)) ∧ w = w' := by
  by_cases h1 : 0 ≤ p <;> by_cases h2 : p < 8 <;> by_cases h3 : 0 ≤ e <;> by_cases h4 : e ≤ 100
  all_goals
    have hr : PL.isProd p e = (decide (0 ≤ p) && decide (p < 8) && decide (0 ≤ e) && decide (e ≤ 100)) := rfl
    simp only [h1, h2, h3, h4, decide_true, decide_false, Bool.and_true, Bool.and_false, Bool.false_and] at hr
    rw [hr]
    clear hr
    go_enter Try.func44, Try.ntmps44
    go_wp2
    go_ret
    exact ⟨rfl, rfl⟩
theorem isTxn_any (t : Int) (w : World) : Calls Try.prog 51 #[.int .i64 t] w fun x w' => x = .returned (.bool (PL.isTxn t)) ∧ w = w' := by
  by_cases h1 : 1 ≤ t <;> by_cases h2 : t ≤ 100
  all_goals
    have hr : PL.isTxn t = (decide (1 ≤ t) && decide (t ≤ 100)) := rfl
    simp only [h1, h2, decide_true, decide_false, Bool.and_true, Bool.and_false] at hr
    rw [hr]
    clear hr
    go_enter Try.func51, Try.ntmps51
    go_wp2
    go_ret
    exact ⟨rfl, rfl⟩

set_option maxRecDepth 100000 in
set_option maxHeartbeats 1000000 in
theorem isRecord_any (p e t q : Int) (n c : Nat) (A : Option Addr) (l : List (BitVec 8)) (hl : l.length = n) (w : World) :
    Calls Try.prog 45 #[.agg #[.int .i64 p, .int .i64 e, .int .i64 t, .int .i64 q, .slice A n c]] w fun x w' => x = .returned (.bool (PL.isRec ⟨p, e, t, q, l⟩)) ∧ Grow w noOwn w' := by
  have hM := Mem.nil w noOwn
  have hr : PL.isRec ⟨p, e, t, q, l⟩ = (PL.isProd p e && PL.isTxn t && decide (0 ≤ q) && decide (q ≤ 1048576) && decide (n ≤ 200)) := by rw [← hl]; rfl
  have hc : (PL.isProd p e = false) ∨ (PL.isProd p e = true ∧ PL.isTxn t = false) ∨ (PL.isProd p e = true ∧ PL.isTxn t = true ∧ q < 0) ∨ (PL.isProd p e = true ∧ PL.isTxn t = true ∧ 0 ≤ q ∧ 1048576 < q) ∨ (PL.isProd p e = true ∧ PL.isTxn t = true ∧ 0 ≤ q ∧ q ≤ 1048576 ∧ (200 : Int) < n) ∨ (PL.isProd p e = true ∧ PL.isTxn t = true ∧ 0 ≤ q ∧ q ≤ 1048576 ∧ (n : Int) ≤ 200) := by
    cases h1 : PL.isProd p e <;> cases h2 : PL.isTxn t <;> simp <;> omega
  have hf : ∀ b : Bool, PL.isRec ⟨p, e, t, q, l⟩ = b → Calls Try.prog 45 #[.agg #[.int .i64 p, .int .i64 e, .int .i64 t, .int .i64 q, .slice A n c]] w (fun x w' => x = .returned (.bool b) ∧ Grow w noOwn w') → Calls Try.prog 45 #[.agg #[.int .i64 p, .int .i64 e, .int .i64 t, .int .i64 q, .slice A n c]] w fun x w' => x = .returned (.bool (PL.isRec ⟨p, e, t, q, l⟩)) ∧ Grow w noOwn w' := fun b hb h => by rw [hb]; exact h
  rcases hc with h1 | ⟨h1, h2⟩ | ⟨h1, h2, h3⟩ | ⟨h1, h2, h3, h4⟩ | ⟨h1, h2, h3, h4, h5⟩ | ⟨h1, h2, h3, h4, h5⟩
  · refine hf false (by rw [hr, h1]; simp) ?_
    have H1 := hide h1
    clear hf hr h1
    go_enter Try.func45, Try.ntmps45
    go_wp2_with (first
      | (refine wpList_box_mem hM rfl 42 _ rfl (.agg #[.int .i64 p, .int .i64 e, .int .i64 t, .int .i64 q, .slice A n c]) rfl _ rfl ?_; clear hM; intro g1 w1 hM; have c0 := hM.cell 0 rfl 0; have c1 := hM.cell 0 rfl 1; have c2 := hM.cell 0 rfl 2; have c3 := hM.cell 0 rfl 3; have c4 := hM.cell 0 rfl 4)
      | (go_at_call 44; refine (isProducer_any _ _ _).mono ?_; rintro e1 w2 ⟨rfl, rfl⟩; rw [unhide H1])
      | (go_at_call 51; refine (isTxn_any _ _).mono ?_; rintro e1 w2 ⟨rfl, rfl⟩; rw [unhide H2]))
    go_ret
    first | exact ⟨rfl, hM.grow⟩ | exact ⟨congrArg (fun b => Ending.returned (.bool b)) (decide_eq_false (by omega)), hM.grow⟩ | exact ⟨congrArg (fun b => Ending.returned (.bool b)) (decide_eq_true (by omega)), hM.grow⟩
  · refine hf false (by rw [hr, h1, h2]; simp) ?_
    have H1 := hide h1
    have H2 := hide h2
    clear hf hr h1 h2
    go_enter Try.func45, Try.ntmps45
    go_wp2_with (first
      | (refine wpList_box_mem hM rfl 42 _ rfl (.agg #[.int .i64 p, .int .i64 e, .int .i64 t, .int .i64 q, .slice A n c]) rfl _ rfl ?_; clear hM; intro g1 w1 hM; have c0 := hM.cell 0 rfl 0; have c1 := hM.cell 0 rfl 1; have c2 := hM.cell 0 rfl 2; have c3 := hM.cell 0 rfl 3; have c4 := hM.cell 0 rfl 4)
      | (go_at_call 44; refine (isProducer_any _ _ _).mono ?_; rintro e1 w2 ⟨rfl, rfl⟩; rw [unhide H1])
      | (go_at_call 51; refine (isTxn_any _ _).mono ?_; rintro e1 w2 ⟨rfl, rfl⟩; rw [unhide H2]))
    go_ret
    first | exact ⟨rfl, hM.grow⟩ | exact ⟨congrArg (fun b => Ending.returned (.bool b)) (decide_eq_false (by omega)), hM.grow⟩ | exact ⟨congrArg (fun b => Ending.returned (.bool b)) (decide_eq_true (by omega)), hM.grow⟩
  · refine hf false (by rw [hr, h1, h2]; simp; omega) ?_
    have H1 := hide h1
    have H2 := hide h2
    clear hf hr h1 h2
    go_enter Try.func45, Try.ntmps45
    go_wp2_with (first
      | (refine wpList_box_mem hM rfl 42 _ rfl (.agg #[.int .i64 p, .int .i64 e, .int .i64 t, .int .i64 q, .slice A n c]) rfl _ rfl ?_; clear hM; intro g1 w1 hM; have c0 := hM.cell 0 rfl 0; have c1 := hM.cell 0 rfl 1; have c2 := hM.cell 0 rfl 2; have c3 := hM.cell 0 rfl 3; have c4 := hM.cell 0 rfl 4)
      | (go_at_call 44; refine (isProducer_any _ _ _).mono ?_; rintro e1 w2 ⟨rfl, rfl⟩; rw [unhide H1])
      | (go_at_call 51; refine (isTxn_any _ _).mono ?_; rintro e1 w2 ⟨rfl, rfl⟩; rw [unhide H2]))
    go_ret
    first | exact ⟨rfl, hM.grow⟩ | exact ⟨congrArg (fun b => Ending.returned (.bool b)) (decide_eq_false (by omega)), hM.grow⟩ | exact ⟨congrArg (fun b => Ending.returned (.bool b)) (decide_eq_true (by omega)), hM.grow⟩
  · refine hf false (by rw [hr, h1, h2]; simp; omega) ?_
    have H1 := hide h1
    have H2 := hide h2
    clear hf hr h1 h2
    go_enter Try.func45, Try.ntmps45
    go_wp2_with (first
      | (refine wpList_box_mem hM rfl 42 _ rfl (.agg #[.int .i64 p, .int .i64 e, .int .i64 t, .int .i64 q, .slice A n c]) rfl _ rfl ?_; clear hM; intro g1 w1 hM; have c0 := hM.cell 0 rfl 0; have c1 := hM.cell 0 rfl 1; have c2 := hM.cell 0 rfl 2; have c3 := hM.cell 0 rfl 3; have c4 := hM.cell 0 rfl 4)
      | (go_at_call 44; refine (isProducer_any _ _ _).mono ?_; rintro e1 w2 ⟨rfl, rfl⟩; rw [unhide H1])
      | (go_at_call 51; refine (isTxn_any _ _).mono ?_; rintro e1 w2 ⟨rfl, rfl⟩; rw [unhide H2]))
    go_ret
    first | exact ⟨rfl, hM.grow⟩ | exact ⟨congrArg (fun b => Ending.returned (.bool b)) (decide_eq_false (by omega)), hM.grow⟩ | exact ⟨congrArg (fun b => Ending.returned (.bool b)) (decide_eq_true (by omega)), hM.grow⟩
  · refine hf false (by rw [hr, h1, h2]; simp; omega) ?_
    have H1 := hide h1
    have H2 := hide h2
    clear hf hr h1 h2
    go_enter Try.func45, Try.ntmps45
    go_wp2_with (first
      | (refine wpList_box_mem hM rfl 42 _ rfl (.agg #[.int .i64 p, .int .i64 e, .int .i64 t, .int .i64 q, .slice A n c]) rfl _ rfl ?_; clear hM; intro g1 w1 hM; have c0 := hM.cell 0 rfl 0; have c1 := hM.cell 0 rfl 1; have c2 := hM.cell 0 rfl 2; have c3 := hM.cell 0 rfl 3; have c4 := hM.cell 0 rfl 4)
      | (go_at_call 44; refine (isProducer_any _ _ _).mono ?_; rintro e1 w2 ⟨rfl, rfl⟩; rw [unhide H1])
      | (go_at_call 51; refine (isTxn_any _ _).mono ?_; rintro e1 w2 ⟨rfl, rfl⟩; rw [unhide H2]))
    go_ret
    first | exact ⟨rfl, hM.grow⟩ | exact ⟨congrArg (fun b => Ending.returned (.bool b)) (decide_eq_false (by omega)), hM.grow⟩ | exact ⟨congrArg (fun b => Ending.returned (.bool b)) (decide_eq_true (by omega)), hM.grow⟩
  · refine hf true (by rw [hr, h1, h2]; simp; omega) ?_
    have H1 := hide h1
    have H2 := hide h2
    clear hf hr h1 h2
    go_enter Try.func45, Try.ntmps45
    go_wp2_with (first
      | (refine wpList_box_mem hM rfl 42 _ rfl (.agg #[.int .i64 p, .int .i64 e, .int .i64 t, .int .i64 q, .slice A n c]) rfl _ rfl ?_; clear hM; intro g1 w1 hM; have c0 := hM.cell 0 rfl 0; have c1 := hM.cell 0 rfl 1; have c2 := hM.cell 0 rfl 2; have c3 := hM.cell 0 rfl 3; have c4 := hM.cell 0 rfl 4)
      | (go_at_call 44; refine (isProducer_any _ _ _).mono ?_; rintro e1 w2 ⟨rfl, rfl⟩; rw [unhide H1])
      | (go_at_call 51; refine (isTxn_any _ _).mono ?_; rintro e1 w2 ⟨rfl, rfl⟩; rw [unhide H2]))
    go_ret
    first | exact ⟨rfl, hM.grow⟩ | exact ⟨congrArg (fun b => Ending.returned (.bool b)) (decide_eq_false (by omega)), hM.grow⟩ | exact ⟨congrArg (fun b => Ending.returned (.bool b)) (decide_eq_true (by omega)), hM.grow⟩

theorem u8row : Row3 Try.prog 5 (.int .u8 0) 1 1 := by unfold Row3; kernel_rfl
theorem spnrow : Row3 Try.prog 39 (.agg #[.int .i64 0, .int .i64 0, .int .i64 0, .int .i64 0, .int .i64 0]) 5 40 := by unfold Row3; kernel_rfl
theorem recrow : Row3 Try.prog 42 (.agg #[.int .i64 0, .int .i64 0, .int .i64 0, .int .i64 0, .slice none 0 0]) 5 56 := by unfold Row3; kernel_rfl
theorem oneCells_V8 (l : List (BitVec 8)) : ∀ u ∈ l.map V8, u.oneCell' = true := fun u hu => by obtain ⟨x, _, rfl⟩ := List.mem_map.1 hu; rfl
theorem oneCells_spn (l : List Spn) : ∀ u ∈ spnCells l, u.oneCell' = true := fun u hu => by
  obtain ⟨s, _, h⟩ := List.mem_flatMap.1 hu
  simp [spnVals] at h
  rcases h with rfl | rfl | rfl | rfl | rfl <;> rfl
end Go.Proofs.Ytechglhkcjgodaa
