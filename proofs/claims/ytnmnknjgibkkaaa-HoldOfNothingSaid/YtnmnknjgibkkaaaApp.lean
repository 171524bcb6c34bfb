/- copy and append over what is at hand. -/
import Derived.Test.YtnmnknjgibkkaaaMem
import Derived.Laws.CopyOwn
import Derived.Maps.AppendAt
import Derived.ArgAppend
import Derived.Laws.MakeOwn
namespace Go.Proofs.Ytnmnknjgibkkaaa
open Go.RowKit

section
variable {P : Program} (w : World)
theorem run_append_of_nil (base : Nat) (t ty e : TypeId) (i : TypeInfo) (size : Nat) (ht : P.underlying t = some (.slice e)) (hi : P.info? e = some i)
    (v : Value) (n : Nat) (xs : List Value) (hown : w.ownsRow base e size v n xs) (c : Nat) : (Builtin.append_ #[t, t] ty #[v, .slice none 0 c]).run P w = .ok v w := by
  rcases hown.2 with ⟨rfl, rfl⟩ | ⟨g, cap, cur, rfl, _, _, hnc, _⟩
  · simp [Builtin.append_, run_underlying ht, sizeOf, typeInfo, hi, Builtin.lenOf, Builtin.firstCells]
  · simp [Builtin.append_, run_underlying ht, sizeOf, typeInfo, hi, Builtin.lenOf, Builtin.firstCells, hnc, storeCells]

theorem run_append_any (base : Nat) (t ty e : TypeId) (i : TypeInfo) (z : Value) (size bytes : Nat) (ht : P.underlying t = some (.slice e)) (hi : P.info? e = some i) (hz : i.zero = some z)
    (hsize : i.size = size) (hby : i.bytes = bytes) (hzs : z.cells.size = size) (hsz : 0 < size)
    (v : Value) (n : Nat) (xs : List Value) (hown : w.ownsRow base e size v n xs)
    (B : Nat) (A : Option Addr) (m c : Nat) (news : List Value) (hr : Reads w B size A m news) (h1 : ∀ u ∈ news, u.oneCell' = true)
    (h63 : n + m ≤ maxLen) (hbytes : (n + m) * bytes ≤ 140737488355328) (hbase : base ≤ w.heap.size) :
    ∃ v' w', (Builtin.append_ #[t, t] ty #[v, .slice A m c]).run P w = .ok v' w' ∧ w'.ownsRow base e size v' (n + m) (xs ++ news) ∧ w.grownBy w' v.ownBlock ∧
      (v'.ownBlock = v.ownBlock ∨ v'.ownBlock = some w.heap.size) := by
  rcases A with _ | ad
  · have hm : m = 0 := by
      rcases Nat.eq_zero_or_pos m with h0 | h0
      · exact h0
      · obtain ⟨ad, h, _⟩ := hr.2 h0
        cases h
    subst hm
    have hn : news = [] := List.eq_nil_of_length_eq_zero (by simpa using hr.1)
    subst hn
    exact ⟨v, w, run_append_of_nil w base t ty e i size ht hi v n xs hown c, by simpa using hown, World.grownBy.refl w _, .inl rfl⟩
  · have hcells : ∀ j u, news[j]? = some u → w.cell? (ad.add j) = some u := by
      intro j u hu
      rcases Nat.eq_zero_or_pos m with h0 | h0
      · subst h0
        have hn : news = [] := List.eq_nil_of_length_eq_zero (by simpa using hr.1)
        subst hn
        simp at hu
      · obtain ⟨ad', h, _, hc⟩ := hr.2 h0
        injection h with h
        subst h
        exact hc j u hu
    obtain ⟨v', w', hrun, h2, h3, _, h5⟩ := run_append_own_at (P := P) w base t ty e i z size bytes ht hi hz hsize hby hzs hsz v n xs hown ad m c news hr.1 hcells h1 h63 hbytes hbase
    exact ⟨v', w', hrun, h2, h3, h5⟩
end

/-- A type's row of the table: zero value, cells, bytes. -/
def Row3 (P : Program) (e : TypeId) (z : Value) (size bytes : Nat) : Prop := (P.info? e).map (fun i => (i.zero, i.size, i.bytes)) = some (some z, size, bytes)

section
variable {P : Program} {ops : Array Oper} {rest : List Oper} {o : Oper} {a : Act} {w : World} {Q : Exit → Act → World → Prop}
/-- append(s, x...) where s is a row at hand (nil let in) and x reads as 'news'. -/
theorem wp_append_mem {K : Act → World → Prop} {w0 : World} {own : Nat → Prop} {L : List Item} (s x : Operand) (t : TypeId)
    (ho : o.op = .call { callee := .builtin .append, args := #[s, x], argTypes := #[t, t] })
    (hM : Mem w0 own w L) (i : Nat) (v : Value) (e : TypeId) (size n : Nat) (xs : List Value) (hi : L[i]? = some (.row v e size n xs)) (hs : a.eval s = v)
    (ht : P.underlying t = some (.slice e)) (z : Value) (bytes : Nat) (hz : Row3 P e z size bytes) (hzs : z.cells.size = size) (hsz : 0 < size)
    (B : Nat) (A : Option Addr) (m c : Nat) (news : List Value) (hx : a.eval x = .slice A m c) (hr : Reads w B size A m news) (h1 : ∀ u ∈ news, u.oneCell' = true)
    (h63 : n + m ≤ maxLen) (hbytes : (n + m) * bytes ≤ 140737488355328)
    (h : ∀ v' w', Mem w0 own w' (L.set i (.row v' e size (n + m) (xs ++ news))) → w.grownBy w' v.ownBlock → K (a.put o.dst v') w') : o.wp P a w K Q := by
  obtain ⟨ti, hti, hz0, hz1, hz2⟩ := info_parts hz
  obtain ⟨v', w', hrun, h2, h3, h4⟩ := run_append_any (P := P) w 0 t o.type e ti z size bytes ht hti hz0 hz1 hz2 hzs hsz v n xs (hM.row i hi) B A m c news hr h1 h63 hbytes (Nat.zero_le _)
  unfold Oper.wp execOp
  simp only [ho, resolve, invoke, builtin, Sem.run_bind, Sem.run_pure, Result.andThen_ok, List.map_toArray, List.map_cons, List.map_nil, hs, hx, hrun]
  refine h v' w' (hM.upd i hi ?_ (fun k hk hne => h3.block k hk (fun e => hne e.symm)) h2 (fun g e => ?_)) h3
  · refine hM.grow.trans (Grow.of_grownBy h3) (fun k hk e => ?_)
    rcases hM.own_ i hi e.symm with ho | ho
    · exact ho
    · omega
  · rcases h4 with h4 | h4
    · exact .inl (h4.symm.trans e)
    · have : some w.heap.size = some g := h4.symm.trans e
      injection this with this
      exact .inr (by omega)
theorem wpList_append_mem {w0 : World} {own : Nat → Prop} {L : List Item} (hgd : Region.wanted o (yielded ops a.tmps) = true) (s x : Operand) (t : TypeId)
    (ho : o.op = .call { callee := .builtin .append, args := #[s, x], argTypes := #[t, t] })
    (hM : Mem w0 own w L) (i : Nat) (v : Value) (e : TypeId) (size n : Nat) (xs : List Value) (hi : L[i]? = some (.row v e size n xs)) (hs : a.eval s = v)
    (ht : P.underlying t = some (.slice e)) (z : Value) (bytes : Nat) (hz : Row3 P e z size bytes) (hzs : z.cells.size = size) (hsz : 0 < size)
    (B : Nat) (A : Option Addr) (m c : Nat) (news : List Value) (hx : a.eval x = .slice A m c) (hr : Reads w B size A m news) (h1 : ∀ u ∈ news, u.oneCell' = true)
    (h63 : n + m ≤ maxLen) (hbytes : (n + m) * bytes ≤ 140737488355328)
    (h : ∀ v' w', Mem w0 own w' (L.set i (.row v' e size (n + m) (xs ++ news))) → w.grownBy w' v.ownBlock → wpList P ops Q rest (a.put o.dst v') w') : wpList P ops Q (o :: rest) a w :=
  BigFrame.wpList_want hgd fun _ hK => wp_append_mem s x t ho hM i v e size n xs hi hs ht z bytes hz hzs hsz B A m c news hx hr h1 h63 hbytes fun v' w' h2 h3 => hK _ _ (h v' w' h2 h3)

/-- copy into the head of a block at hand. -/
theorem wpList_copy_mem {w0 : World} {own : Nat → Prop} {L : List Item} (hgd : o.guard = none) (d s : Operand) (dT sT : TypeId)
    (ho : o.op = .call { callee := .builtin .copy, args := #[d, s], argTypes := #[dT, sT] }) (elem : TypeId) (hu : P.underlying dT = some (.slice elem)) (hsz : (P.info? elem).map (·.size) = some 1)
    (hM : Mem w0 own w L) (i g : Nat) (t : TypeId) (cur : Array Value) (hi : L[i]? = some (.blk g t cur)) (dLen dCap : Nat) (hd : a.eval d = .slice (some ⟨g, 0, none⟩) dLen dCap) (hdl : dLen ≤ cur.size)
    (B : Nat) (A : Option Addr) (m c : Nat) (xs : List Value) (hs : a.eval s = .slice A m c) (hr : Reads w B 1 A m xs) (h1 : ∀ u ∈ xs, u.oneCell' = true) (hm : m ≤ dLen)
    (h : ∀ w', Mem w0 own w' (L.set i (.blk g t (splice cur.toList 0 xs).toArray)) → wpList P ops Q rest (a.put o.dst (goInt m)) w') : wpList P ops Q (o :: rest) a w := by
  have hxl : xs.length = m := by have := hr.1; omega
  have hcn : xs.length = Nat.min m dLen := by rw [hxl]; exact (Nat.min_eq_left hm).symm
  by_cases h0 : m = 0
  · subst h0
    obtain rfl : xs = [] := List.eq_nil_of_length_eq_zero hxl
    refine wpList_copy_nothing hgd d s dT sT ho elem hu hsz _ A dLen dCap 0 c hd hs (by simp) ?_
    have := h w (by
      have e : (splice cur.toList 0 ([] : List Value)).toArray = cur := by simp [splice]
      rw [e]
      exact hM.upd i hi hM.grow (fun _ _ _ => rfl) (hM.at_ i hi) (fun _ e => .inl e))
    exact this
  · obtain ⟨ad, rfl, _, hsrc⟩ := hr.2 (by omega)
    refine wpList_copy_own hgd d s dT sT ho elem hu hsz g 0 dLen dCap ad m c hd hs cur t (hM.blk i hi) xs hcn hsrc (by omega) h1 ?_
    have e : w.setRow g (splice cur.toList 0 xs).toArray = w.setRow g (cur.toList.take 0 ++ (xs ++ cur.toList.drop (0 + xs.length))).toArray := rfl
    have := h _ (hM.setRow i hi (splice cur.toList 0 xs).toArray)
    rw [← hxl] at this
    exact this

theorem row_form {w : World} {e : TypeId} {size n : Nat} {v : Value} {xs : List Value} (h : w.ownsRow 0 e size v n xs) : ∃ A c, v = .slice A n c ∧ n ≤ c ∧ c ≤ maxLen := by
  rcases h.2 with ⟨rfl, rfl⟩ | ⟨g, cap, cur, rfl, _, _, h1, h2, _⟩
  · exact ⟨none, 0, rfl, Nat.le_refl _, Nat.zero_le _⟩
  · exact ⟨_, cap, rfl, h1, h2⟩
theorem row_cap {w : World} {e : TypeId} {size n c : Nat} {A : Option Addr} {xs : List Value} (h : w.ownsRow 0 e size (.slice A n c) n xs) : n ≤ c ∧ c ≤ maxLen := by
  obtain ⟨A', c', e1, h1, h2⟩ := row_form h
  injection e1 with _ _ e2
  subst e2
  exact ⟨h1, h2⟩
theorem row_some {w : World} {e : TypeId} {size n c : Nat} {A : Option Addr} {xs : List Value} (h : w.ownsRow 0 e size (.slice A n c) n xs) (hn : 0 < n) : ∃ g, A = some ⟨g, 0, none⟩ ∧ g < w.heap.size := by
  rcases h.2 with ⟨_, rfl⟩ | ⟨g, cap, cur, hv, _, hg, _⟩
  · omega
  · injection hv with hv
    exact ⟨g, hv, (Array.getElem?_eq_some_iff.1 hg).1⟩
theorem row_blk {w : World} {e : TypeId} {size n c : Nat} {A : Option Addr} {xs : List Value} (h : w.ownsRow 0 e size (.slice A n c) n xs) (hn : 0 < n) : ∃ g cur, A = some ⟨g, 0, none⟩ ∧ Blk w g e cur ∧ cur.size = c * size ∧ cur.toList.take (n * size) = xs := by
  rcases h.2 with ⟨_, rfl⟩ | ⟨g, cap, cur, hv, _, hg, _, _, h1, h2⟩
  · omega
  · injection hv with hv _ hc
    subst hc
    exact ⟨g, cur, hv, hg, h1, h2⟩
/-- The same append, what comes out as a slice. -/
theorem wpList_append_row {w0 : World} {own : Nat → Prop} {L : List Item} (hgd : Region.wanted o (yielded ops a.tmps) = true) (s x : Operand) (t : TypeId)
    (ho : o.op = .call { callee := .builtin .append, args := #[s, x], argTypes := #[t, t] })
    (hM : Mem w0 own w L) (i : Nat) (v : Value) (e : TypeId) (size n : Nat) (xs : List Value) (hi : L[i]? = some (.row v e size n xs)) (hs : a.eval s = v)
    (ht : P.underlying t = some (.slice e)) (z : Value) (bytes : Nat) (hz : Row3 P e z size bytes) (hzs : z.cells.size = size) (hsz : 0 < size)
    (B : Nat) (A : Option Addr) (m c : Nat) (news : List Value) (hx : a.eval x = .slice A m c) (hr : Reads w B size A m news) (h1 : ∀ u ∈ news, u.oneCell' = true)
    (h63 : n + m ≤ maxLen) (hbytes : (n + m) * bytes ≤ 140737488355328) (k : Nat) (hk : n + m = k) (ys : List Value) (hys : xs ++ news = ys)
    (h : ∀ A' c' w', Mem w0 own w' (L.set i (.row (.slice A' k c') e size k ys)) → wpList P ops Q rest (a.put o.dst (.slice A' k c')) w') : wpList P ops Q (o :: rest) a w := by
  subst hk; subst hys
  refine wpList_append_mem hgd s x t ho hM i v e size n xs hi hs ht z bytes hz hzs hsz B A m c news hx hr h1 h63 hbytes (fun v' w' hM' _ => ?_)
  have hl : i < L.length := (List.getElem?_eq_some_iff.1 hi).1
  obtain ⟨A', c', rfl, _, _⟩ := row_form (hM'.row i (v := v') (e := e) (size := size) (n := n + m) (xs := xs ++ news) (by simp [hl]))
  exact h A' c' w' hM'
/-- append(s, x...) where s is any slice that is full: s reads as xs, what comes out as xs ++ news. -/
theorem wpList_append_full {w0 : World} {own : Nat → Prop} {L : List Item} (hgd : Region.wanted o (yielded ops a.tmps) = true) (s x : Operand) (t : TypeId)
    (ho : o.op = .call { callee := .builtin .append, args := #[s, x], argTypes := #[t, t] })
    (hM : Mem w0 own w L) (e : TypeId) (ht : P.underlying t = some (.slice e)) (z : Value) (size bytes : Nat) (hz : Row3 P e z size bytes) (hzs : z.cells.size = size) (hsz : 0 < size)
    (B : Nat) (A : Option Addr) (n : Nat) (xs : List Value) (hs : a.eval s = .slice A n n) (hrs : Reads w B size A n xs) (hn : 0 < n) (hBs : B ≤ w.heap.size)
    (B' : Nat) (A' : Option Addr) (m c : Nat) (news : List Value) (hx : a.eval x = .slice A' m c) (hr : Reads w B' size A' m news)
    (h63 : n + m ≤ maxLen) (hbytes : (n + m) * bytes ≤ 140737488355328)
    (h : ∀ A2 c2 w', Mem w0 own w' L → Reads w' w'.heap.size size A2 (n + m) (xs ++ news) → n + m ≤ c2 → wpList P ops Q rest (a.put o.dst (.slice A2 (n + m) c2)) w') : wpList P ops Q (o :: rest) a w := by
  obtain ⟨ti, hti, hz0, hz1, hz2⟩ := info_parts hz
  obtain ⟨ad, rfl, hadB, hadc⟩ := hrs.2 hn
  refine BigFrame.wpList_want hgd fun K hK => ?_
  by_cases hm : m = 0
  · subst hm
    have hnews : news = [] := List.eq_nil_of_length_eq_zero (by have := hr.1; simpa using this)
    subst hnews
    have hrun : (Builtin.append_ #[t, t] o.type #[.slice (some ad) n n, .slice A' 0 c]).run P w = .ok (.slice (some ad) n n) w := by
      cases A' with
      | none => simp [Builtin.append_, run_underlying ht, sizeOf, typeInfo, hti, Builtin.lenOf, Builtin.firstCells, storeCells]
      | some a' => simp [Builtin.append_, run_underlying ht, sizeOf, typeInfo, hti, Builtin.lenOf, Builtin.firstCells, storeCells, loadCells, loadCellsFrom]
    unfold Oper.wp execOp
    simp only [ho, resolve, invoke, builtin, Sem.run_bind, Sem.run_pure, Result.andThen_ok, List.map_toArray, List.map_cons, List.map_nil, hs, hx, hrun]
    exact hK _ _ (h (some ad) n w hM (by simpa using hrs.more hBs) (Nat.le_refl _))
  · obtain ⟨ad', rfl, _, hc'⟩ := hr.2 (by omega)
    obtain ⟨v', w', hrun, hown, hg⟩ := run_append_arg_grows (P := P) w t o.type e ti z size bytes ht hti hz0 hz1 hz2 hzs hsz ad n n xs hrs.1 hadc ad' m c news hr.1 hc' (by omega) h63 hbytes
    have hown0 : w'.ownsRow 0 e size v' (n + m) (xs ++ news) := ⟨hown.1, by
      rcases hown.2 with h0 | ⟨g, cap, cur, h1, _, h2⟩
      · exact .inl h0
      · exact .inr ⟨g, cap, cur, h1, Nat.zero_le _, h2⟩⟩
    obtain ⟨A2, c2, rfl, hc2, _⟩ := row_form hown0
    unfold Oper.wp execOp
    simp only [ho, resolve, invoke, builtin, Sem.run_bind, Sem.run_pure, Result.andThen_ok, List.map_toArray, List.map_cons, List.map_nil, hs, hx, hrun]
    exact hK _ _ (h A2 c2 w' (hM.call ((Grow.of_grownBy hg).mono (fun _ _ e => by cases e))) (Reads.of_own hown0) hc2)

/-- The cells of a slice made of parts. -/
def slCells (z : Value) (size len : Nat) (parts : List (Nat × Value)) : Option (Array Value) :=
  Instr.fill (fun i => some (i * size, size)) ((Array.range (len * size)).map (fun i => (if len * size = 0 then #[] else z.cells)[i % (if len * size = 0 then #[] else z.cells).size]!)) parts
theorem run_buildSlice_row (ρ : Operand → Value) (t : TypeId) (len : Nat) (parts : Array (Nat × Operand)) (ho : o.op = .buildSlice t len parts)
    (e : TypeId) (ht : P.underlying t = some (.slice e)) (z : Value) (size bytes : Nat) (hz : Row3 P e z size bytes) (hl : len * size ≤ 65536) (xs : List Value)
    (hc : slCells z size len (parts.map fun (i, x) => (i, ρ x)).toList = some xs.toArray) :
    (execOp ρ o).run P w = .ok (.value (.slice (some ⟨w.heap.size, 0, none⟩) len len)) (w.alloc (.cells xs.toArray e)) := by
  obtain ⟨ti, hti, hz0, hz1, hz2⟩ := info_parts hz
  have h16 : ¬ (len * size > 2 ^ 24) := by omega
  by_cases h0 : len * size = 0
  · simp only [slCells, h0, if_true] at hc
    simp [execOp, ho, Instr.buildSlice, run_underlying ht, sizeOf, typeInfo, hti, hz1, h0]
    simp at hc
    simp [hc, newRow]
  · simp only [slCells, h0, if_false] at hc
    simp [execOp, ho, Instr.buildSlice, run_underlying ht, sizeOf, typeInfo, hti, hz1, h0, h16, zeroValue, hz0]
    simp at hc
    simp [hc, newRow]
theorem wpList_buildSlice_row {w0 : World} {own : Nat → Prop} {L : List Item} (hgd : Region.wanted o (yielded ops a.tmps) = true) (t : TypeId) (len : Nat) (parts : Array (Nat × Operand)) (ho : o.op = .buildSlice t len parts)
    (hM : Mem w0 own w L) (e : TypeId) (ht : P.underlying t = some (.slice e)) (z : Value) (size bytes : Nat) (hz : Row3 P e z size bytes) (hl : len * size ≤ 65536) (hsz : 0 < size) (xs : List Value)
    (hc : slCells z size len (parts.map fun (i, x) => (i, a.eval x)).toList = some xs.toArray) (hxl : xs.length = len * size)
    (h : ∀ g w', Mem w0 own w' (.row (.slice (some ⟨g, 0, none⟩) len len) e size len xs :: L) → wpList P ops Q rest (a.put o.dst (.slice (some ⟨g, 0, none⟩) len len)) w') : wpList P ops Q (o :: rest) a w :=
  BigFrame.wpList_want hgd fun K hK => by
    have hr := run_buildSlice_row (P := P) (w := w) a.eval t len parts ho e ht z size bytes hz hl xs hc
    unfold Oper.wp
    rw [hr]
    refine hK _ _ (h _ _ (hM.push (hM.grow.alloc _) (fun k hk => Below.heap_alloc w _ k hk) ?_ (fun g e => by simp [Item.foot, Value.ownBlock] at e; omega)))
    exact ⟨hxl, .inr ⟨_, len, _, rfl, Nat.zero_le _, heap_alloc_new w _, Nat.le_refl _, by simp only [maxLen]; have := Nat.le_mul_of_pos_right len hsz; omega, by simp [hxl], by simp [← hxl]⟩⟩
end
end Go.Proofs.Ytnmnknjgibkkaaa
