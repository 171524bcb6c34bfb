/- cert.Meets; slices of votes; the example that every law runs. -/
import Derived.Test.YtkcmnhmbpamehaaWho
namespace Go.Proofs.Ytkcmnhmbpamehaa
open Go.RowKit Go.MapKept
set_option linter.unusedSimpArgs false
set_option linter.unusedVariables false
theorem foldl_at (off : Nat) : ∀ (vs : List Value) (k : Nat) (cs : Array Value), off + k + vs.length ≤ cs.size →
    ((vs.zipIdx k).foldl (fun cs (p : Value × Nat) => cs.setIfInBounds (off + p.2) p.1) cs).toList = cs.toList.take (off + k) ++ vs ++ cs.toList.drop (off + k + vs.length)
  | [], k, cs, h => by simp
  | v :: vs, k, cs, h => by
    simp only [List.length_cons] at h
    rw [List.zipIdx_cons, List.foldl_cons, foldl_at off vs (k + 1) _ (by simp; omega)]
    have h1 : off + k < cs.toList.length := by simp; omega
    rw [Array.toList_setIfInBounds, List.take_set, ← Nat.add_assoc, List.take_succ_eq_append_getElem h1, List.set_append_right _ _ (by simp; omega), List.drop_set_of_lt (by omega)]
    simp only [List.length_take, Nat.min_eq_left (Nat.le_of_lt h1), Nat.sub_self, List.set_cons_zero, List.length_cons]
    rw [show off + k + 1 + vs.length = off + k + (vs.length + 1) from by omega]
    simp
theorem fill_vals (size : Nat) : ∀ (vs : List Value) (k : Nat) (cells : Array Value) (done : List Value), (∀ v ∈ vs, v.cells.size = size) → cells.size = (k + vs.length) * size → cells.toList.take (k * size) = done → 
    Instr.fill (fun i => some (i * size, size)) cells ((vs.zipIdx k).map fun q => (q.2, q.1)) = some (done ++ vs.flatMap (·.cells.toList)).toArray
  | [], k, cells, done, _, hs, hd => by
    simp only [List.zipIdx_nil, List.map_nil, Instr.fill, List.flatMap_nil, List.append_nil]
    rw [← hd, List.take_of_length_le (by simp only [Array.length_toList, hs, List.length_nil]; exact Nat.le_refl _)]
  | v :: vs, k, cells, done, hv, hs, hd => by
    have h1 := hv v (List.mem_cons_self ..)
    have h2 : k * size + size ≤ cells.size := by
      rw [hs, List.length_cons, ← Nat.add_one_mul]
      exact Nat.mul_le_mul_right _ (by omega)
    simp only [List.zipIdx_cons, List.map_cons, Instr.fill]
    rw [if_neg (by simp [h1, h2])]
    have e := foldl_at (k * size) v.cells.toList 0 cells (by simp [h1]; exact h2)
    rw [← Array.foldl_toList, Array.toList_zipIdx] 
    have hsz : ((v.cells.toList.zipIdx 0).foldl (fun cs (p : Value × Nat) => cs.setIfInBounds (k * size + p.2) p.1) cells).size = cells.size := by
      have := congrArg List.length e
      simp only [Array.length_toList, List.length_append, List.length_take, List.length_drop, h1] at this
      omega
    rw [fill_vals size vs (k + 1) _ (done ++ v.cells.toList) (fun u hu => hv u (List.mem_cons_of_mem _ hu)) (by rw [hsz, hs, List.length_cons]; congr 1; omega) ?_]
    · simp
    · rw [e]
      simp only [Nat.add_zero]
      rw [hd]
      have hl : (done ++ v.cells.toList).length = (k + 1) * size := by
        rw [← hd, List.length_append, List.length_take, Array.length_toList, Array.length_toList, h1, Nat.min_eq_left (by omega), Nat.add_one_mul]
      rw [← hl, List.take_left]
theorem slCells_vals {z : Value} {size len : Nat} {vs : List Value} (hl : vs.length = len) (hv : ∀ v ∈ vs, v.cells.size = size) : slCells z size len (vs.zipIdx.map fun q => (q.2, q.1)) = some (vs.flatMap (·.cells.toList)).toArray := by
  unfold slCells
  have := fill_vals size vs 0 ((Array.range (len * size)).map (fun i => (if len * size = 0 then #[] else z.cells)[i % (if len * size = 0 then #[] else z.cells).size]!)) [] hv (by simp [hl]) (by simp)
  simpa using this
section
variable {P : Program} {ops : Array Oper} {rest : List Oper} {o : Oper} {w w0 : World} {own : Nat → Prop} {L : List Item} {Q : Exit → Act → World → Prop} {a : Act}
theorem wpList_bsv (hgd : Region.wanted o (yielded ops a.tmps) = true) (T : TypeId) (len : Nat) (parts : Array (Nat × Operand)) (ho : o.op = .buildSlice T len parts) (hM : Mem w0 own w L) {e : TypeId} {z : Value} {size bytes : Nat} (ht : TySl P T e z size bytes) (vs : List Value) (xs : List Value)
    (hp : parts.toList.map (fun p => (p.1, a.eval p.2)) = vs.zipIdx.map fun q => (q.2, q.1)) (hl : vs.length = len) (hv : ∀ v ∈ vs, v.cells.size = size) (hx : vs.flatMap (·.cells.toList) = xs) (hxl : xs.length = len * size) (hb : len * size ≤ 65536)
    (h : ∀ g w', Mem w0 own w' (.row (.slice (some ⟨g, 0, none⟩) len len) e size len xs :: L) → wpList P ops Q rest (a.put o.dst (.slice (some ⟨g, 0, none⟩) len len)) w') : wpList P ops Q (o :: rest) a w :=
  wpList_buildSlice_row hgd T len parts ho hM e ht.under z size bytes ht.row hb ht.pos xs (by
    rw [show (parts.map fun (i, x) => (i, a.eval x)).toList = parts.toList.map (fun p => (p.1, a.eval p.2)) from by simp, hp, slCells_vals hl hv, hx]) hxl h
end
theorem vCells_flat : ∀ (l : List Vt), (l.map fun v => Value.agg (vtc v).toArray).flatMap (·.cells.toList) = vCells l
  | [] => rfl
  | v :: l => by
    have := vCells_flat l
    simp only [vCells, List.map_cons, List.flatMap_cons] at this ⊢
    rw [this]
    rfl
theorem vCells_size (l : List Vt) (h : ∀ v ∈ l, v.Ok) : ∀ u ∈ l.map (fun v => Value.agg (vtc v).toArray), u.cells.size = 68 := by
  intro u hu
  obtain ⟨v, hv, rfl⟩ := List.mem_map.1 hu
  have := vtc_len (h v hv)
  simpa [Value.cells] using this
def meetsOf (ks : List (List (BitVec 8))) (l : List Vt) (k s v : Int) (sum : List (BitVec 8)) : Bool := decide (quorumOf ks.length ≤ ((whoOf ks l k s v sum).length : Int))
theorem Reads.up {w w' : World} {size n : Nat} {A : Option Addr} {xs : List Value} (hb : Reads w w.heap.size size A n xs) (hg : Grow w noOwn w') : Reads w' w'.heap.size size A n xs := (Reads.grow hb hg (Nat.le_refl _)).more hg.size
theorem whoOf_len (ks : List (List (BitVec 8))) (l : List Vt) (k s v : Int) (sum : List (BitVec 8)) : (whoOf ks l k s v sum).length ≤ 10 := by
  unfold whoOf
  rw [List.length_mergeSort]
  exact ddx_le (onOf_len ..)
attribute [local irreducible] wpList Code.wp GW Calls
set_option maxRecDepth 100000 in
set_option maxHeartbeats 4000000 in
theorem Meets_any (w : World) (g c n cap : Nat) (A B : Option Addr) (ks : List (List (BitVec 8))) (lv : List Vt) (k s v : Int) (sum : List (BitVec 8)) (h : RingIs w g A c 56 ks) (hl : Reads w w.heap.size 68 B n (vCells lv)) (hn : lv.length = n) (hcap : n ≤ cap) (hok : ∀ v ∈ lv, v.Ok) (hsum : sum.length = 32) (hk10 : ks.length ≤ 1000) :
    Calls Try.prog 30 #[.pointer (some ⟨g, 0, none⟩), .slice B n cap, .int .i64 k, .int .i64 s, .int .i64 v, .agg (hv sum)] w fun e w' => e = .returned (.bool (meetsOf ks lv k s v sum)) ∧ Grow w noOwn w' := by
  have hM := Mem.nil w noOwn
  have z3 : SzA (hv sum) 32 := ⟨by rw [hv_size, hsum]⟩
  obtain ⟨m, hm⟩ : ∃ m, m = meetsOf ks lv k s v sum := ⟨_, rfl⟩
  obtain ⟨wh, hwh⟩ : ∃ wh, wh = whoOf ks lv k s v sum := ⟨_, rfl⟩
  have hm2 : decide (quorumOf ks.length ≤ (wh.length : Int)) = m := by rw [hm, hwh]; rfl
  have hw10 : wh.length ≤ 10 := by rw [hwh]; exact whoOf_len ..
  rw [← hm]
  have HM2 := hide hm2
  have HWH := hide hwh
  clear hm hm2 hwh
  go_enter Try.func30, Try.ntmps30
  go_wp2_with (first
    | ((with_reducible refine wl_shape ?_); first | (apply wl_boxa; exact rfl; exact hM; exact rfl; exact rfl; clear hM; intro gg ww hM; simp only [putT, List.set_cons_succ, List.set_cons_zero]) | (apply wl_box1; exact rfl; exact hM; exact rfl; exact rfl; exact rfl; clear hM; intro gg ww hM; simp only [putT, List.set_cons_succ, List.set_cons_zero]) | (apply wl_alloc; exact rfl; exact hM; exact rfl; exact inferInstance; clear hM; intro gg ww hM; simp only [putT, List.set_cons_succ, List.set_cons_zero]) | (apply wl_ld; exact rfl; exact hM; exact rfl; exact rfl; exact inferInstance; exact inferInstance; simp only [putT, List.set_cons_succ, List.set_cons_zero]) | (apply wl_lda; exact rfl; exact hM; exact rfl; exact rfl; exact inferInstance; exact inferInstance; exact inferInstance; exact inferInstance; simp only [putT, List.set_cons_succ, List.set_cons_zero]) | (apply wl_ldr; exact rfl; exact hM; exact rfl; exact rfl; exact inferInstance; exact inferInstance; exact inferInstance; exact inferInstance; simp only [putT, List.set_cons_succ, List.set_cons_zero]) | (apply wl_st; exact rfl; exact hM; exact rfl; exact rfl; exact rfl; exact rfl; exact inferInstance; exact inferInstance; clear hM; intro ww hM; simp only [putT, List.set_cons_succ, List.set_cons_zero]) | (apply wl_sta; exact rfl; exact hM; exact rfl; exact rfl; exact rfl; exact all_oneCell_toArray One.out; exact inferInstance; exact inferInstance; exact inferInstance; clear hM; intro ww hM; simp only [putT, List.set_cons_succ, List.set_cons_zero]) | (apply wl_bs0; exact rfl; exact hM; exact rfl; exact inferInstance; clear hM; intro gg ww hM; simp only [putT, List.set_cons_succ, List.set_cons_zero]) | (apply wl_bs1a; exact rfl; exact hM; exact rfl; exact inferInstance; exact rfl; exact inferInstance; clear hM; intro gg ww hM; simp only [putT, List.set_cons_succ, List.set_cons_zero]) | (apply wl_bs11; exact rfl; exact hM; exact rfl; exact inferInstance; exact rfl; exact rfl; clear hM; intro gg ww hM; simp only [putT, List.set_cons_succ, List.set_cons_zero]) | (apply wl_conv; exact rfl; exact hM; exact rfl; exact rfl; exact inferInstance; exact inferInstance; simp only [putT, List.set_cons_succ, List.set_cons_zero]))
    | (go_at_call 44; refine (Who_any _ g c n cap A B ks lv k s v sum (h.grow hM.grow) (hl.up hM.grow) hn hcap hok hsum).mono ?_; rw [← unhide HWH]; rintro e1 w1 ⟨A1, c1, rfl, hM1⟩; replace hM := hM.on hM1; clear hM1)
    | (go_at_call 46; refine (Nodes_any _ g c A ks (h.grow hM.grow)).mono ?_; rintro e w2 ⟨rfl, rfl⟩)
    | (go_at_call 45; refine (Quorum_any _ ks.length (by omega)).mono ?_; rintro e w2 ⟨rfl, rfl⟩)
    | (rw [unhide HM2]))
  go_ret
  exact ⟨rfl, hM.grow⟩
end Go.Proofs.Ytkcmnhmbpamehaa
