/- slices.Sorted(maps.Keys(m)), of a map at hand. -/
import Derived.Test.YtnmnknjgibkkaaaTab
import Derived.Test.YtnmnknjgibkkaaaKeyLay
import Derived.Shelf.Slices.In.SortNone
namespace Go.Proofs.Ytnmnknjgibkkaaa
open Go.RowKit Go.MapKept Go.Maps Go.Sort Go.Shelf
set_option linter.unusedSimpArgs false
set_option linter.unusedVariables false
def anyR (_ : Value) : Option (DataW Unit × List MemPlace) := some (.lit (.bool true), [])
/-- Keys that an int holds. -/
def In64 {β : Type} (tb : List (Int × β)) : Prop := ∀ p ∈ tb, -9223372036854775808 ≤ p.1 ∧ p.1 ≤ 9223372036854775807
theorem wf64 {k : Int} (h : -9223372036854775808 ≤ k ∧ k ≤ 9223372036854775807) : (Lit.int .i64 k).wf = true := by
  unfold Lit.wf
  rw [Bool.and_eq_true]
  have h1 : IntKind.i64.min = -9223372036854775808 := by decide
  have h2 : IntKind.i64.max = 9223372036854775807 := by decide
  exact ⟨decide_eq_true (by rw [h1]; exact h.1), decide_eq_true (by rw [h2]; exact h.2)⟩
def v2i : Value → Int
  | .int _ k => k
  | _ => 0
section
variable {P : Program} {w : World} {g : Nat} {tb : List (Int × Value)} {T : TypeId}
theorem owns_tab (hT : P.underlying T = some (.int .i64)) (hr : Rise tb) (hk : In64 tb) (hl : tb.length ≤ 1000000) (h : ∃ o, w.heap[g]? = some o ∧ IsMap (tget tb) o) :
    ∃ D : DataW Unit, w.ownsMap P T anyR g tb.length D ∧ (intKeys D).Perm (tb.map (·.1)) ∧ Maps.size D = tb.length := by
  obtain ⟨o, ho, hm⟩ := h
  obtain ⟨es, clock, rfl, hs, hks, hnone, hsome⟩ := id hm
  have hsz := isMap_size hr hm
  have hkeys := isMap_keys hr hm
  have hkey : ∀ x ∈ es.toList, ∃ k, x.key = .int .i64 k ∧ keyOf P T x.key = some (.int .i64 k) := by
    intro x hx
    have : x.key ∈ es.toList.map (·.key) := List.mem_map_of_mem hx
    rw [hkeys.mem_iff] at this
    obtain ⟨p, hp, e⟩ := List.mem_map.1 this
    exact ⟨p.1, e.symm, by rw [← e]; exact Maps.keyOf_int_mk hT (wf64 (hk p hp))⟩
  have hrd : ∀ x ∈ es.toList, WideElems.rd P T anyR x = some (.int .i64 (v2i x.key), .lit (.bool true)) := by
    intro x hx
    obtain ⟨k, h1, h2⟩ := hkey x hx
    unfold WideElems.rd
    rw [h2, h1]
    rfl
  refine ⟨_, ⟨es, clock, ho, ⟨by rw [hsz]; unfold maxLen; omega, hs, fun x hx => ⟨_, hrd x hx⟩⟩, by omega, rfl⟩, ?_, ?_⟩
  · show ((((es.toList.map (WideElems.rg P T anyR)).foldr DataW.insert []).map fun p => Go.intOf p.1)).Perm _
    refine (List.Perm.map _ (WideShapes.sorted_perm _)).trans ?_
    rw [List.map_map]
    have e1 : es.toList.map ((fun p : Lit × DataW Unit => Go.intOf p.1) ∘ WideElems.rg P T anyR) = (es.toList.map (·.key)).map v2i := by
      rw [List.map_map]
      refine List.map_congr_left fun x hx => ?_
      show Go.intOf (WideElems.rg P T anyR x).1 = v2i x.key
      unfold WideElems.rg
      rw [hrd x hx]
      rfl
    rw [e1]
    have h2 := hkeys.map v2i
    have e2 : (tb.map fun p => Value.int .i64 p.1).map v2i = tb.map (·.1) := by rw [List.map_map]; rfl
    rw [e2] at h2
    exact h2
  · show (((es.toList.map (WideElems.rg P T anyR)).foldr DataW.insert []).length) = tb.length
    rw [length_sorted]
    simp [hsz]
end
theorem sort_rise {β : Type} {tb : List (Int × β)} (hr : Rise tb) {ss : List Int} (h : ss.Perm (tb.map (·.1))) : (ss.mergeSort fun x y => decide (x ≤ y)) = tb.map (·.1) := by
  have e : (ss.mergeSort fun x y => decide (x ≤ y)) = (tb.map (·.1)).mergeSort fun x y => decide (x ≤ y) := mergeSort_of_perm_i h
  rw [e]
  exact List.mergeSort_of_pairwise (List.pairwise_map.2 (hr.imp fun {a b} hab => by simp only [decide_eq_true_eq]; exact Int.le_of_lt hab))
theorem sortsIn (m : Nat) : AnyZI.SortsIn Try.prog laysT_ren Fence.wide m :=
  ⟨fun blk off cap ss W hH hblk hsz => callsIn_wide.2 (Any.slices_Sort_int lays189 blk off cap ss W hH hblk hsz),
   fun p cap W => callsIn_wide.2 (Any.slices_Sort_int_none lays189 p cap W)⟩
/-- A row in new blocks, behind a call that writes nothing that was there. -/
theorem Mem.pushRow {w0 w w' : World} {own : Nat → Prop} {L : List Item} {v : Value} {e : TypeId} {size n : Nat} {xs : List Value} (hM : Mem w0 own w L) (hb : Below w.heap.size w w') (hr : w'.ownsRow w.heap.size e size v n xs) : Mem w0 own w' (.row v e size n xs :: L) := by
  have hg := Grow.of_below hb noOwn
  have hM' := hM.call hg
  have hB : ∀ g, v.ownBlock = some g → w.heap.size ≤ g := fun g hg => by
    rcases hr.2 with ⟨e2, _⟩ | ⟨g', cap, cur, e2, hb, _⟩
    · rw [e2] at hg; cases hg
    · rw [e2] at hg; simp [Value.ownBlock] at hg; omega
  refine ⟨hM'.grow, fun y hy => ?_, List.pairwise_cons.2 ⟨fun y hy g e1 e2 => ?_, hM'.apart⟩, fun y hy g e1 => ?_⟩
  · rcases List.mem_cons.1 hy with rfl | hy
    · exact ownsRow_base hr
    · exact hM'.has y hy
  · have := hB g e1
    have := Item.at_lt (hM.has y hy) g e2
    omega
  · rcases List.mem_cons.1 hy with rfl | hy
    · have := hB g e1
      have := hM.grow.size
      exact .inr (by omega)
    · exact hM'.mine y hy g e1
/-- The keys of a map at hand, sorted. -/
theorem sorted_mem {w0 w : World} {own : Nat → Prop} {L : List Item} (hM : Mem w0 own w L) {b g : Nat} {tb : List (Int × Value)} (hb : HasBlk L b 36 #[.map (some g)]) (ht : HasTab L g tb) (hr : Rise tb) (hk : In64 tb) (hl : tb.length ≤ 1000000) :
    Calls Try.prog 29 #[.func (.func 39) #[] #[.pointer (some ⟨b, 0, none⟩)]] w fun e w' => ∃ A c, e = .returned (.slice A tb.length c) ∧ Mem w0 own w' (.row (.slice A tb.length c) 3 1 tb.length ((tb.map (·.1)).map (Value.int .i64)) :: L) := by
  obtain ⟨D, hown, hperm, hsize⟩ := owns_tab (T := 3) Try.underlying3 hr hk hl (hM.has _ ht.out)
  have hblk : Blk w b 36 #[.map (some g)] := hM.has _ hb.out
  have hseq := AnyZI.keys_gives (ρ := laysK_ren) { laysK with } Fence.wide 2 trivial rfl (by omega) b g tb.length D w hblk.lt (hblk.cell 0) hown
  have cS := AnyZI.sorted_in laysT Fence.wide 5 trivial trivial trivial trivial rfl (by omega) (sortsIn _) (enters_of Try.func38 (by kernel_rfl) rfl) 39 #[.pointer (some ⟨b, 0, none⟩)] trivial (enters_of Try.func39 (by kernel_rfl) rfl) _ _ (by rw [hsize]; unfold maxLen; omega) (by rw [hsize]; omega) _ hseq
  change CallsIn _ _ Try.prog 29 _ _ _ at cS
  refine (callsIn_wide.1 cS).mono ?_
  rintro e w' ⟨v, ss, rfl, hS, hrow, hnil, hbel⟩
  have hp : ss.Perm (tb.map (·.1)) := (show ss.Perm (intKeys D) from hS).trans hperm
  have hlen : ss.length = tb.length := by rw [hp.length_eq, List.length_map]
  rw [sort_rise hr hp, hlen] at hrow
  obtain ⟨A, c, rfl, _, _⟩ := RowFrom.slice (show RowFrom w.heap.size 3 1 tb.length _ v w' from hrow)
  exact ⟨A, c, rfl, hM.pushRow hbel hrow⟩
end Go.Proofs.Ytnmnknjgibkkaaa
