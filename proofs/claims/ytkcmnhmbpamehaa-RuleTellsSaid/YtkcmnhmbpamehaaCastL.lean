/- cert: a vote is cast. -/
import Derived.Test.YtkcmnhmbpamehaaVote
import Derived.Test.YtkcmnhmbpamehaaSeal4
namespace Go.Proofs.Ytkcmnhmbpamehaa
open Go.RowKit Go.MapKept
set_option linter.unusedSimpArgs false
set_option linter.unusedVariables false
section
variable {P : Program} {ops : Array Oper} {rest : List Oper} {o : Oper} {a : Act} {w : World} {Q : Exit → Act → World → Prop}
/-- A struct is built. -/
theorem wpList_built (hgd : Region.wanted o (yielded ops a.tmps) = true) (t : TypeId) (parts : Array (Nat × Operand)) (ho : o.op = .build t parts) (l : List (Nat × Value)) (cells : Array Value)
    (hl : (parts.map fun (i, x) => (i, a.eval x)).toList = l) (hb : P.built t l = some cells) (h : wpList P ops Q rest (a.put o.dst (.agg cells)) w) : wpList P ops Q (o :: rest) a w :=
  BigFrame.wpList_want hgd fun K hK => by
    unfold Oper.wp execOp
    simp only [ho, Sem.run_bind, run_build w t _ cells (by rw [hl]; exact hb), Result.andThen_ok, Sem.run_pure]
    exact hK _ _ h
/-- A part of a block is stored. -/
theorem wpList_store_part {w0 : World} {own : Nat → Prop} {L : List Item} (hgd : Region.wanted o (yielded ops a.tmps) = true) (ty : TypeId) (x y : Operand) (ho : o.op = .store ty x y)
    (hM : Mem w0 own w L) (i g of : Nat) (t : TypeId) (old cs new : Array Value) (hi : L[i]? = some (.blk g t old)) (hx : a.eval x = .pointer (some ⟨g, of, none⟩)) (hy : a.eval y = .agg cs)
    (hs : (P.info? ty).map (·.size) = some cs.size) (hl : of + cs.size ≤ old.size) (h1 : cs.all (·.oneCell') = true) (hn : (old.toList.take of ++ cs.toList ++ old.toList.drop (of + cs.size)).toArray = new)
    (h : ∀ w', Mem w0 own w' (L.set i (.blk g t new)) → wpList P ops Q rest (a.put o.dst undef) w') : wpList P ops Q (o :: rest) a w :=
  BigFrame.wpList_want hgd fun _ hK => by
    have hr : (storeVar ty ⟨g, of, none⟩ (.agg cs)).run P w = .ok () (w.setRow g new) := by
      have := run_storeCells_at (P := P) g of t cs.toList 0 old w (hM.blk i hi) (by simpa using hl) (fun v hv => (Array.all_eq_true_iff_forall_mem.1 h1) v (by simpa using hv))
      simp only [Nat.add_zero, Array.length_toList] at this
      rw [hn] at this
      cases hq : P.info? ty with
      | none => simp [hq] at hs
      | some it =>
        have hsz : cs.size = it.size := by simp [hq] at hs; omega
        simp [storeVar, sizeOf, typeInfo, hq, Value.cells, hsz, this]
    unfold Oper.wp execOp
    simp only [ho, hx, hy, Instr.storeAt, Instr.sureAddr, Sem.run_bind, Sem.run_pure, Result.andThen_ok, hr]
    exact hK _ _ (h _ (hM.setRow i hi new))
end
theorem list32 (l : List (BitVec 8)) (h : l.length = 32) : ∃ f : Nat → BitVec 8, l = (List.range 32).map f := by
  refine ⟨fun i => l.getD i 0, List.ext_getElem (by simp [h]) fun i h1 h2 => ?_⟩
  simp [List.getElem?_eq_getElem h1]
def zb32 : List (BitVec 8) := List.replicate 32 0
theorem built_vote (k s v fr : Int) (sum : List (BitVec 8)) (hs : sum.length = 32) : Try.prog.built 32 [(0, .int .i64 k), (1, .int .i64 s), (2, .int .i64 v), (3, .agg (hv sum)), (4, .int .i64 fr)] = some (vtc ⟨k, s, v, sum, fr, zb32⟩).toArray := by
  obtain ⟨f, rfl⟩ := list32 sum hs
  kernel_rfl
/-- A vote is stored, but for its tag. -/
theorem vtc_put (k s v fr : Int) (sum t1 t2 : List (BitVec 8)) (hs : sum.length = 32) (h1 : t1.length = 32) : ((vtc ⟨k, s, v, sum, fr, t1⟩).toArray.toList.take 36 ++ (hv t2).toList ++ (vtc ⟨k, s, v, sum, fr, t1⟩).toArray.toList.drop (36 + (hv t2).size)).toArray = (vtc ⟨k, s, v, sum, fr, t2⟩).toArray ∨ t2.length ≠ 32 := by
  by_cases h2 : t2.length = 32
  · refine .inl ?_
    obtain ⟨f, rfl⟩ := list32 sum hs
    obtain ⟨f1, rfl⟩ := list32 t1 h1
    obtain ⟨f2, rfl⟩ := list32 t2 h2
    rfl
  · exact .inr h2
theorem zeroV : ((Try.prog.info? 32).bind (·.zero)).map (·.cells) = some (vtc ⟨0, 0, 0, zb32, 0, zb32⟩).toArray := by kernel_rfl
theorem sizeV : (Try.prog.info? 32).map (·.size) = some 68 := by kernel_rfl
/-- A vote that a node of the ring casts. -/
def castOf (ks : List (List (BitVec 8))) (k s v : Int) (sum : List (BitVec 8)) (fr : Int) : Vt := ⟨k, s, v, sum, fr, sealOf ks fr (voteB ⟨k, s, v, sum, fr, zb32⟩)⟩
theorem castOf_ok (ks : List (List (BitVec 8))) (k s v : Int) (sum : List (BitVec 8)) (fr : Int) (hs : sum.length = 32) : (castOf ks k s v sum fr).Ok := ⟨hs, sealOf_length _ _ _⟩
theorem voteB_len (v : Vt) (h : v.Ok) : (voteB v).length ≤ 1000 := by
  have h1 : (numsB [5, v.k, v.s, v.v]).length ≤ 36 := numsB_len _
  have h2 : (numsB [v.f]).length ≤ 9 := numsB_len _
  have h3 := h.sum
  unfold voteB
  simp only [List.length_append]
  omega
theorem vtc_all (v : Vt) : (vtc v).toArray.all (·.oneCell') = true := by
  refine all_oneCell_toArray ?_
  unfold vtc
  exact One.out
end Go.Proofs.Ytkcmnhmbpamehaa
