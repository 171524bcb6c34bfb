/- append(s, make([]byte, n)...): zeros behind a row at hand. -/
import Derived.Test.YtggpchdgljhmdaaApp
import Derived.Test.YtggpchdgljhmdaaWords
import Derived.Lib.AppendStr
import Derived.IntWalk
namespace Go.Proofs.Ytggpchdgljhmdaa
open Go.RowKit Go.Lib

def zeroStr (m : Nat) : ByteArray := ⟨(List.replicate m 0).toArray⟩
theorem zeroStr_size (m : Nat) : (zeroStr m).size = m := by simp [zeroStr, ByteArray.size]
theorem zeroStr_cells (m : Nat) : strCells (zeroStr m) = List.replicate m (Value.int .u8 0) := by
  simp [strCells, zeroStr]

section
variable {P : Program} (w : World)
theorem run_append_zeros_eq (t tI u ty e : TypeId) (i : TypeInfo) (ht : P.underlying t = some (.slice e)) (hI : P.underlying tI = some (.int .i64)) (hu : P.underlying u = some .string) (hi : P.info? e = some i) (hz : i.zero = some (.int .u8 0))
    (hsize : i.size = 1) (hby : i.bytes = 1) (b : Option Addr) (n c m : Nat) (hbytes : n + m ≤ 140737488355328) :
    (Builtin.append_ #[t, tI] ty #[.slice b n c, .int .i64 m]).run P w = (Builtin.append_ #[t, u] ty #[.slice b n c, .string (zeroStr m)]).run P w := by
  have hw : IntKind.i64.wrap (m : Int) = m := by
    exact IntWalk.i64_in _ (by omega)
  have hai : asInt (.int .i64 (m : Int)) = pure (m : Int) := rfl
  have hai0 : asInt (.int .i64 0) = pure 0 := rfl
  have hw0 : IntKind.i64.wrap 0 = 0 := by decide
  have hfs := fun w => run_firstCells_string (P := P) w 1 (zeroStr m)
  simp only [zeroStr_size, zeroStr_cells] at hfs
  have hzc : Builtin.zeroCells #[Value.int .u8 0] m = (List.replicate m (Value.int .u8 0)).toArray := by
    apply Array.ext'
    simp [Builtin.zeroCells, Nat.mod_one]
    apply List.ext_getElem <;> simp
  have h48 : ¬ ((281474976710656 : Int) < m) := by omega
  have hneg : ¬ ((m : Int) < 0) := by omega
  by_cases hroom : n + m ≤ c
  · by_cases h0 : m = 0
    · subst h0
      have hroom' : n ≤ c := by omega
      simp only [List.replicate_zero] at hfs
      simp [Builtin.append_, run_underlying ht, run_underlying hu, run_underlying hI, sizeOf, typeInfo, zeroValue, hi, hz, hsize, hby, Builtin.lenOf, hai0, hw0, hroom', hfs, zeroStr_size]
    · simp [Builtin.append_, run_underlying ht, run_underlying hu, run_underlying hI, sizeOf, typeInfo, zeroValue, hi, hz, hsize, hby, Builtin.lenOf, hai, hw, hroom, hfs, zeroStr_size, h48, hneg, h0, hzc, Value.cells]
  · have h63' : ¬ (9223372036854775807 < ((n : Int) + (m : Int))) := by omega
    have hg := growslice_fits (need := n + m) (old := c) (bytes := 1) (by omega) (by omega)
    have hg' : ¬ (281474976710656 < Builtin.nextslicecap (n + m) c) := by omega
    simp [Builtin.append_, run_underlying ht, run_underlying hu, run_underlying hI, sizeOf, typeInfo, zeroValue, hi, hz, hsize, hby, Builtin.lenOf, hai, hw, hroom, hfs, zeroStr_size, h48, hneg, hzc, h63', hg', Value.cells]
    by_cases h0 : m = 0 <;> simp [h0]

theorem run_append_zeros (t tI u ty e : TypeId) (i : TypeInfo) (ht : P.underlying t = some (.slice e)) (hI : P.underlying tI = some (.int .i64)) (hu : P.underlying u = some .string) (hi : P.info? e = some i) (hz : i.zero = some (.int .u8 0))
    (hsize : i.size = 1) (hby : i.bytes = 1) (v : Value) (n : Nat) (xs : List Value) (hown : w.ownsRow 0 e 1 v n xs) (m : Nat) (hbytes : n + m ≤ 140737488355328) :
    ∃ v' w', (Builtin.append_ #[t, tI] ty #[v, .int .i64 m]).run P w = .ok v' w' ∧ w'.ownsRow 0 e 1 v' (n + m) (xs ++ List.replicate m (.int .u8 0)) ∧ w.grownBy w' v.ownBlock ∧
      (v'.ownBlock = v.ownBlock ∨ v'.ownBlock = some w.heap.size) := by
  obtain ⟨A, c, rfl, hnc, _⟩ := row_form hown
  obtain ⟨v', w', hr, h2, h3, h4⟩ := run_append_own_string (P := P) w 0 t u ty e i ht hu hi hz hsize hby _ n xs hown (zeroStr m) (by rw [zeroStr_size]; simp only [maxLen]; omega) (by rw [zeroStr_size]; exact hbytes) (Nat.zero_le _)
  have he := run_append_zeros_eq w t tI u ty e i ht hI hu hi hz hsize hby A n c m hbytes
  rw [zeroStr_size, zeroStr_cells] at h2
  refine ⟨v', w', he.trans hr, h2, h3, ?_⟩
  rcases hown.2 with ⟨e1, rfl⟩ | ⟨g, cap, cur, e1, _, hg, _, hcm, hcs, htake⟩
  · injection e1 with e1 _ e2
    subst e1 e2
    by_cases hm : m = 0
    · have hv := h4.2 ⟨rfl, by rw [zeroStr_size]; exact hm⟩
      rw [hv]; exact .inl rfl
    · have hr2 := run_append_nil_string (P := P) w t u ty e i (.int .u8 0) ht hu hi hz (zeroStr m) (by rw [zeroStr_size]; omega) (by rw [zeroStr_size]; omega) (by rw [hby, zeroStr_size]; omega)
      have := hr.symm.trans hr2
      injection this with this _
      rw [this]; exact .inr rfl
  · injection e1 with e1 _ e2
    subst e1 e2
    by_cases hroom : n + m ≤ c
    · have hr2 := run_append_room_string (P := P) w t u ty e i ht hu hi hsize g n c cur hg (zeroStr m) (by rw [zeroStr_size]; exact hroom) (by rw [zeroStr_size]; omega)
      have := hr.symm.trans hr2
      injection this with this _
      rw [this]; exact .inl rfl
    · have holds : ∀ j u, xs[j]? = some u → w.cell? ((⟨g, 0, none⟩ : Addr).add j) = some u := hown.cells (g := g) rfl
      have hr2 := run_append_grow_string (P := P) w t u ty e i (.int .u8 0) ht hu hi hz ⟨g, 0, none⟩ n c xs (by rw [hsize]; simpa using hown.1) holds (zeroStr m) (by rw [zeroStr_size]; omega) (by rw [zeroStr_size]; omega) (by rw [hby, zeroStr_size]; exact growslice_fits (by omega) (by omega))
      have := hr.symm.trans hr2
      injection this with this _
      rw [this]; exact .inr rfl
end

section
variable {P : Program} {ops : Array Oper} {rest : List Oper} {o : Oper} {a : Act} {w : World} {Q : Exit → Act → World → Prop}
/-- append(s, make([]byte, m)...) where s is a row at hand. -/
theorem wpList_append_zeros {w0 : World} {own : Nat → Prop} {L : List Item} (hgd : Region.wanted o (yielded ops a.tmps) = true) (s x : Operand) (t tI u : TypeId)
    (ho : o.op = .call { callee := .builtin .append, args := #[s, x], argTypes := #[t, tI] })
    (hM : Mem w0 own w L) (i : Nat) (v : Value) (e : TypeId) (n : Nat) (l : List (BitVec 8)) (hi : L[i]? = some (.row v e 1 n (l.map V8))) (hs : a.eval s = v)
    (ht : P.underlying t = some (.slice e)) (hI : P.underlying tI = some (.int .i64)) (hu : P.underlying u = some .string) (hz : Row3 P e (.int .u8 0) 1 1)
    (m : Nat) (hx : a.eval x = .int .i64 m) (hbytes : n + m ≤ 140737488355328)
    (h : ∀ v' w', Mem w0 own w' (L.set i (.row v' e 1 (n + m) ((l ++ List.replicate m 0).map V8))) → wpList P ops Q rest (a.put o.dst v') w') : wpList P ops Q (o :: rest) a w := by
  refine BigFrame.wpList_want hgd fun K hK => ?_
  obtain ⟨ti, hti, hz0, hz1, hz2⟩ := info_parts hz
  obtain ⟨v', w', hrun, h2, h3, h4⟩ := run_append_zeros (P := P) w t tI u o.type e ti ht hI hu hti hz0 hz1 hz2 v n _ (hM.row i hi) m hbytes
  have hxs : l.map V8 ++ List.replicate m (Value.int .u8 0) = (l ++ List.replicate m 0).map V8 := by
    rw [List.map_append, List.map_replicate]; rfl
  rw [hxs] at h2
  unfold Oper.wp execOp
  simp only [ho, resolve, invoke, builtin, Sem.run_bind, Sem.run_pure, Result.andThen_ok, List.map_toArray, List.map_cons, List.map_nil, hs, hx, hrun]
  refine hK _ _ (h v' w' (hM.upd i hi ?_ (fun k hk hne => h3.block k hk hne) h2 (fun g e => ?_)))
  · refine hM.grow.trans (Grow.of_grownBy h3) (fun k hk e => ?_)
    rcases hM.own_ i hi e.symm with ho | ho
    · exact ho
    · omega
  · rcases h4 with h4 | h4
    · exact .inl (h4.symm.trans e)
    · have : some w.heap.size = some g := h4.symm.trans e
      injection this with this
      exact .inr (by omega)
end
end Go.Proofs.Ytggpchdgljhmdaa
