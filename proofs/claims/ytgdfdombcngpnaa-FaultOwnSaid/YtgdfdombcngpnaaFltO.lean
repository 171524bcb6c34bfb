/- fault's laws: messages and lies that come in; what is long. -/
import Derived.Test.YtgdfdombcngpnaaFJ3
namespace Go.Proofs.Ytgdfdombcngpnaa
open Go.ChangeShapes Go.WideShapes Go.ChangeAt Go.RowKit
set_option linter.unusedSimpArgs false
set_option linter.unusedVariables false
set_option linter.constructorNameAsVariable false
theorem flatS_get {α : Type} {f : α → List Value} {s : Nat} : ∀ (l : List α) (_ : ∀ v ∈ l, (f v).length = s) (k : Nat) (hk : k < l.length) (j : Nat) (_ : j < s), (l.flatMap f)[k * s + j]? = (f l[k])[j]?
  | v :: l, h, 0, _, j, hj => by
    have h1 := h v (List.mem_cons_self ..)
    simp only [List.flatMap_cons]
    rw [List.getElem?_append_left (by omega)]
    simp
  | v :: l, h, k + 1, hk, j, hj => by
    have h1 := h v (List.mem_cons_self ..)
    have := flatS_get l (fun u hu => h u (List.mem_cons_of_mem _ hu)) k (by simpa using hk) j hj
    simp only [List.flatMap_cons]
    rw [List.getElem?_append_right (by rw [h1, Nat.add_mul]; omega), show (k + 1) * s + j - (f v).length = k * s + j from by rw [h1, Nat.add_mul]; omega, this]
    simp
theorem flatS_length {α : Type} {f : α → List Value} {s : Nat} : ∀ (l : List α) (_ : ∀ v ∈ l, (f v).length = s), (l.flatMap f).length = l.length * s
  | [], _ => by simp
  | v :: l, h => by
    have h1 := h v (List.mem_cons_self ..)
    have := flatS_length l (fun u hu => h u (List.mem_cons_of_mem _ hu))
    simp only [List.flatMap_cons, List.length_append, List.length_cons, this, h1, Nat.add_mul]
    omega
section
variable {P : Program} {w : World} {t e : TypeId} {B n : Nat} {cs : List Value}
theorem rdw_list {α : Type} (f : α → List Value) (Ok : α → Prop) (z : α) {s : Nat} (hs : 0 < s) (hlen : ∀ u, Ok u → (f u).length = s) (h : Rdw P w B n t cs) (ht : P.underlying t = some (.slice e)) (hc : P.cellsOf e = s) (hb : 1 ≤ P.bytesOf e)
    (hf : ∀ m xs, Rdw P w B m e xs → ∃ u, Ok u ∧ xs = f u) : ∃ A k c, ∃ lv : List α, cs = [.slice A k c] ∧ k ≤ c ∧ k ≤ B ∧ lv.length = k ∧ (∀ u ∈ lv, Ok u) ∧ Reads w w.heap.size s A k (lv.flatMap f) := by
  obtain ⟨A, k, c, rfl, h1, h2, h3, m, h4⟩ := rdw_slice h ht
  have hkB : k ≤ B := Nat.le_trans (Nat.le_mul_of_pos_right k hb) h3
  rw [hc] at h4
  have key : ∀ i, i < k → ∃ u, Ok u ∧ ∃ a, A = some a ∧ w.cells? 0 (a.add (i * s)) s = some (f u) := by
    intro i hi
    obtain ⟨a, xs, e1, hxs, hr⟩ := h4 i hi
    obtain ⟨u, hu, rfl⟩ := hf m xs hr
    exact ⟨u, hu, a, e1, hxs⟩
  have hok : ∀ u ∈ (List.range k).map (fun i => if hi : i < k then (key i hi).choose else z), Ok u := by
    intro u hu
    obtain ⟨i, hi, rfl⟩ := List.mem_map.1 hu
    have hi' : i < k := by simpa using hi
    rw [dif_pos hi']
    exact (key i hi').choose_spec.1
  refine ⟨A, k, c, (List.range k).map (fun i => if hi : i < k then (key i hi).choose else z), rfl, h1, hkB, by simp, hok, ?_⟩
  refine ⟨by rw [flatS_length _ (fun u hu => hlen u (hok u hu))]; simp, fun hk => ?_⟩
  obtain ⟨u0, _, a, rfl, hc0⟩ := key 0 hk
  obtain ⟨b, off, ha, hbl, _, _⟩ := cells_range hc0 hs
  have ha' : a = ⟨b, off, none⟩ := by simpa [Addr.add] using ha
  subst ha'
  refine ⟨_, rfl, hbl, fun j u hj => ?_⟩
  have hjl : j < k * s := by
    have := (List.getElem?_eq_some_iff.1 hj).1
    rw [flatS_length _ (fun u hu => hlen u (hok u hu))] at this
    simpa using this
  have hi : j / s < k := (Nat.div_lt_iff_lt_mul hs).2 hjl
  have hji : j / s * s + j % s = j := by rw [Nat.mul_comm]; exact Nat.div_add_mod j s
  have hg := flatS_get _ (fun u hu => hlen u (hok u hu)) (j / s) (by simpa using hi) (j % s) (Nat.mod_lt _ hs)
  rw [hji] at hg
  rw [hg] at hj
  simp only [List.getElem_map, List.getElem_range] at hj
  rw [dif_pos hi] at hj
  obtain ⟨a', e', hc'⟩ := (key (j / s) hi).choose_spec.2
  injection e' with e'
  subst e'
  obtain ⟨b2, off2, ha2, _, hr2, _⟩ := cells_range hc' hs
  rw [add_none] at ha2
  injection ha2 with e1 e2 _
  subst e1 e2
  have := hr2 (j % s) u hj
  rw [add_none]
  rwa [show off + j / s * s + j % s = off + j from by omega] at this
end
theorem flat_ints (l : List Int) : l.flatMap (fun z => [Value.int .i64 z]) = l.map (Value.int .i64) := by
  induction l with
  | nil => rfl
  | cons z l ih => simp only [List.flatMap_cons, List.map_cons, ih]; rfl
section
variable {w : World} {B n : Nat} {cs : List Value}
set_option maxRecDepth 100000 in
theorem rdints (h : Rdw Try.prog w B n 23 cs) : ∃ A k c, ∃ l : List Int, cs = [.slice A k c] ∧ k ≤ c ∧ k ≤ B ∧ l.length = k ∧ Reads w w.heap.size 1 A k (l.map (Value.int .i64)) := by
  obtain ⟨A, k, c, l, e, h1, h2, h3, _, h5⟩ := rdw_list (fun z : Int => [Value.int .i64 z]) (fun _ => True) 0 (by decide) (fun _ _ => rfl) h Try.underlying23 (by kernel_rfl) (of_decide_eq_true (by kernel_rfl)) (fun m xs hx => by
    obtain ⟨z, e, _⟩ := rdw_i64 hx Try.underlying3
    exact ⟨z, trivial, e⟩)
  rw [flat_ints] at h5
  exact ⟨A, k, c, l, e, h1, h2, h3, h5⟩
set_option maxRecDepth 100000 in
theorem rdmsg (h : Rdw Try.prog w B n 32 cs) : ∃ x : Hd, (x.Ok w ∧ x.m.vn ≤ B ∧ x.m.wn ≤ B) ∧ cs = msc x.m := by
  obtain ⟨hl, m, hf⟩ := rdw_struct h Try.underlying32
  have c1 : Try.prog.cellsOf 3 = 1 := by kernel_rfl
  have c2 : Try.prog.cellsOf 30 = 32 := by kernel_rfl
  have c3 : Try.prog.cellsOf 32 = 39 := by kernel_rfl
  have c4 : Try.prog.cellsOf 22 = 1 := by kernel_rfl
  have c5 : Try.prog.cellsOf 28 = 1 := by kernel_rfl
  rw [c3] at hl
  obtain ⟨z0, e0, _⟩ := rdw_int (hf 0 _ rfl) Try.underlying3
  obtain ⟨z1, e1, _⟩ := rdw_int (hf 1 _ rfl) Try.underlying3
  obtain ⟨z2, e2, _⟩ := rdw_int (hf 2 _ rfl) Try.underlying3
  obtain ⟨z3, e3, _⟩ := rdw_int (hf 3 _ rfl) Try.underlying3
  obtain ⟨z4, e4, _⟩ := rdw_int (hf 4 _ rfl) Try.underlying3
  obtain ⟨va, vn, vc, val, e5, hv1, hv2, hv3, hv4⟩ := rdw_bytes (hf 5 _ rfl) Try.underlying22 Try.underlying5 (by kernel_rfl) (by kernel_rfl)
  obtain ⟨wa, wn, wc, lv, e6, hw1, hw2, hw3, hw4, hw5⟩ := rdvotes (hf 6 _ rfl)
  obtain ⟨tg, e7, htg⟩ := rdw_hash (hf 7 _ rfl) Try.underlying30 Try.underlying5 (by kernel_rfl) c2
  change (cs.drop 0).take (Try.prog.cellsOf 3) = _ at e0
  change (cs.drop 1).take (Try.prog.cellsOf 3) = _ at e1
  change (cs.drop 2).take (Try.prog.cellsOf 3) = _ at e2
  change (cs.drop 3).take (Try.prog.cellsOf 3) = _ at e3
  change (cs.drop 4).take (Try.prog.cellsOf 3) = _ at e4
  change (cs.drop 5).take (Try.prog.cellsOf 22) = _ at e5
  change (cs.drop 6).take (Try.prog.cellsOf 28) = _ at e6
  change (cs.drop 7).take (Try.prog.cellsOf 30) = _ at e7
  rw [c1] at e0 e1 e2 e3 e4
  rw [c4] at e5
  rw [c5] at e6
  rw [c2] at e7
  refine ⟨⟨⟨z0, z1, z2, z3, z4, va, vn, vc, wa, wn, wc, tg⟩, lv⟩, ⟨⟨htg, hw3, hw1, hw4, hw5⟩, hv3, hw2⟩, ?_⟩
  match cs, hl with
  | a :: b :: c :: d :: e :: f :: g :: r, hl =>
    have hr : r.length = 32 := by simpa using hl
    simp at e0 e1 e2 e3 e4 e5 e6
    have e8 : r = tg.map V8 := by
      rw [← e7]
      simp only [List.drop_succ_cons, List.drop_zero]
      rw [List.take_of_length_le (by omega)]
    simp [msc, e0, e1, e2, e3, e4, e5, e6, e8]
set_option maxRecDepth 100000 in
theorem rdlie (h : Rdw Try.prog w B n 25 cs) : ∃ (l : Li) (val : List (BitVec 8)) (us : List Int), cs = lic l ∧ Bytes w w.heap.size l.va l.vn val ∧ l.vn ≤ l.vc ∧ l.vn ≤ B ∧ Reads w w.heap.size 1 l.ua l.un (us.map (Value.int .i64)) ∧ us.length = l.un ∧ l.un ≤ B := by
  obtain ⟨hl, m, hf⟩ := rdw_struct h Try.underlying25
  have c1 : Try.prog.cellsOf 3 = 1 := by kernel_rfl
  have c3 : Try.prog.cellsOf 25 = 7 := by kernel_rfl
  have c4 : Try.prog.cellsOf 22 = 1 := by kernel_rfl
  have c5 : Try.prog.cellsOf 23 = 1 := by kernel_rfl
  rw [c3] at hl
  obtain ⟨z0, e0, _⟩ := rdw_int (hf 0 _ rfl) Try.underlying3
  obtain ⟨z1, e1, _⟩ := rdw_int (hf 1 _ rfl) Try.underlying3
  obtain ⟨z2, e2, _⟩ := rdw_int (hf 2 _ rfl) Try.underlying3
  obtain ⟨z3, e3, _⟩ := rdw_int (hf 3 _ rfl) Try.underlying3
  obtain ⟨va, vn, vc, val, e4, hv1, hv2, hv3, hv4⟩ := rdw_bytes (hf 4 _ rfl) Try.underlying22 Try.underlying5 (by kernel_rfl) (by kernel_rfl)
  obtain ⟨z5, e5, _⟩ := rdw_int (hf 5 _ rfl) Try.underlying3
  obtain ⟨ua, un, uc, us, e6, hu1, hu2, hu3, hu4⟩ := rdints (hf 6 _ rfl)
  change (cs.drop 0).take (Try.prog.cellsOf 3) = _ at e0
  change (cs.drop 1).take (Try.prog.cellsOf 3) = _ at e1
  change (cs.drop 2).take (Try.prog.cellsOf 3) = _ at e2
  change (cs.drop 3).take (Try.prog.cellsOf 3) = _ at e3
  change (cs.drop 4).take (Try.prog.cellsOf 22) = _ at e4
  change (cs.drop 5).take (Try.prog.cellsOf 3) = _ at e5
  change (cs.drop 6).take (Try.prog.cellsOf 23) = _ at e6
  rw [c1] at e0 e1 e2 e3 e5
  rw [c4] at e4
  rw [c5] at e6
  refine ⟨⟨z0, z1, z2, z3, va, vn, vc, z5, ua, un, uc⟩, val, us, ?_, hv4, hv1, hv3, hu4, hu3, hu2⟩
  match cs, hl with
  | [a, b, c, d, e, f, g], _ =>
    simp at e0 e1 e2 e3 e4 e5 e6
    simp [lic, e0, e1, e2, e3, e4, e5, e6]
end
section
variable {w : World} {v : Value}
set_option maxRecDepth 100000 in
theorem RdV.lie (h : RdV Try.prog w 25 v) : ∃ (l : Li) (val : List (BitVec 8)) (us : List Int), v = .agg (lic l).toArray ∧ Bytes w w.heap.size l.va l.vn val ∧ l.vn ≤ l.vc ∧ Reads w w.heap.size 1 l.ua l.un (us.map (Value.int .i64)) ∧ us.length = l.un := by
  obtain ⟨⟨fuel, hf⟩, r, b, hk⟩ := h
  simp only [Value.okWide, Try.underlying25] at hk
  obtain ⟨cs, rfl, _⟩ := hk
  obtain ⟨l, val, us, e, h1, h2, _, h3, h4, _⟩ := rdlie hf
  refine ⟨l, val, us, ?_, h1, h2, h3, h4⟩
  have : cs.toList = lic l := e
  rw [← this]
set_option maxRecDepth 100000 in
theorem RdV.heard (h : RdV Try.prog w 26 v) : ∃ A k c hs, v = .slice A k c ∧ k ≤ 140737488351232 ∧ HeardR w A k hs ∧ ∀ x ∈ hs, x.m.vn ≤ 140737488351232 ∧ x.m.wn ≤ 140737488351232 := by
  obtain ⟨⟨fuel, hf⟩, r, b, hk⟩ := h
  obtain ⟨A, n, c, rfl⟩ := okWide_slice Try.underlying26 hk
  obtain ⟨A', k, c', hs, e, h1, h2, h3, h4, h5⟩ := rdw_list (fun x : Hd => msc x.m) (fun x => x.Ok w ∧ x.m.vn ≤ 140737488351232 ∧ x.m.wn ≤ 140737488351232) ⟨⟨0, 0, 0, 0, 0, none, 0, 0, none, 0, 0, zb32⟩, []⟩ (by decide : 0 < 39) (fun x hx => msc_len hx.1.tag) hf Try.underlying26 (by kernel_rfl) (of_decide_eq_true (by kernel_rfl)) (fun m xs hx => rdmsg hx)
  have e' : Value.slice A n c = .slice A' k c' := by simpa [Value.cells] using e
  exact ⟨A', k, c', hs, e', h2, ⟨h5, h3, fun x hx => (h4 x hx).1⟩, fun x hx => (h4 x hx).2⟩
end
theorem HeardR.olds {w : World} {A : Option Addr} {n : Nat} {hs : List Hd} (h : HeardR w A n hs) (k : Nat) (hk : k < hs.length) : ∃ b off, A = some ⟨b, off, none⟩ ∧ Old w noOwn ⟨b, off + k * 39 + 5, none⟩ (.slice hs[k].m.va hs[k].m.vn hs[k].m.vc) ∧ Old w noOwn ⟨b, off + k * 39 + 6, none⟩ (.slice hs[k].m.wa hs[k].m.wn hs[k].m.wc) := by
  obtain ⟨b, off, e, _, hc⟩ := h.cell k hk
  exact ⟨b, off, e, old_no (hc 5 _ rfl), old_no (hc 6 _ rfl)⟩
attribute [local irreducible] wpList Code.wp GW Calls
set_option maxRecDepth 100000 in
set_option maxHeartbeats 4000000 in
theorem long17_any (w : World) (A : Option Addr) (n c : Nat) (hs : List Hd) (h : HeardR w A n hs) (hn : n ≤ 140737488351232) (hb : ∀ x ∈ hs, x.m.vn ≤ 140737488351232 ∧ x.m.wn ≤ 140737488351232) :
    Calls Try.prog 15 #[.slice A n c] w fun e w' => ∃ b : Bool, e = .returned (.bool b) ∧ (b = false → ∀ x ∈ hs, x.m.wn ≤ 400) ∧ Grow w noOwn w' := by
  have hM := Mem.nil w noOwn
  go_enter Try.func15, Try.ntmps15
  go_wp2_with (first | ((with_reducible refine wl_shape ?_); first | (apply wl_boxa; exact rfl; exact hM; exact rfl; exact rfl; clear hM; intro gg ww hM; simp only [putT, List.set_cons_succ, List.set_cons_zero]) | (apply wl_box1; exact rfl; exact hM; exact rfl; exact rfl; exact rfl; clear hM; intro gg ww hM; simp only [putT, List.set_cons_succ, List.set_cons_zero]) | (apply wl_alloc; exact rfl; exact hM; exact rfl; exact inferInstance; clear hM; intro gg ww hM; simp only [putT, List.set_cons_succ, List.set_cons_zero]) | (apply wl_ld; exact rfl; exact hM; exact rfl; exact rfl; exact inferInstance; exact inferInstance; simp only [putT, List.set_cons_succ, List.set_cons_zero]) | (apply wl_lda; exact rfl; exact hM; exact rfl; exact rfl; exact inferInstance; exact inferInstance; exact inferInstance; exact inferInstance; simp only [putT, List.set_cons_succ, List.set_cons_zero]) | (apply wl_ldr; exact rfl; exact hM; exact rfl; exact rfl; exact inferInstance; exact inferInstance; exact inferInstance; exact inferInstance; simp only [putT, List.set_cons_succ, List.set_cons_zero]) | (apply wl_st; exact rfl; exact hM; exact rfl; exact rfl; exact rfl; exact rfl; exact inferInstance; exact inferInstance; clear hM; intro ww hM; simp only [putT, List.set_cons_succ, List.set_cons_zero]) | (apply wl_sta; exact rfl; exact hM; exact rfl; exact rfl; exact rfl; exact all_oneCell_toArray One.out; exact inferInstance; exact inferInstance; exact inferInstance; clear hM; intro ww hM; simp only [putT, List.set_cons_succ, List.set_cons_zero]) | (apply wl_bs0; exact rfl; exact hM; exact rfl; exact inferInstance; clear hM; intro gg ww hM; simp only [putT, List.set_cons_succ, List.set_cons_zero]) | (apply wl_bs1a; exact rfl; exact hM; exact rfl; exact inferInstance; exact rfl; exact inferInstance; clear hM; intro gg ww hM; simp only [putT, List.set_cons_succ, List.set_cons_zero]) | (apply wl_bs11; exact rfl; exact hM; exact rfl; exact inferInstance; exact rfl; exact rfl; clear hM; intro gg ww hM; simp only [putT, List.set_cons_succ, List.set_cons_zero]) | (apply wl_conv; exact rfl; exact hM; exact rfl; exact rfl; exact inferInstance; exact inferInstance; simp only [putT, List.set_cons_succ, List.set_cons_zero])))
  have HM := hide hM
  go_loopw [3, 4] (fun u v wr => ∃ (k : Nat) (z : Int), k ≤ n ∧ 0 ≤ z ∧ z ≤ 4000 ∧ u = .int .i64 z ∧ v = .int .i64 k ∧ Hid (∀ i (hi : i < hs.length), i < k → hs[i].m.wn ≤ 400) ∧ Mem w noOwn wr []) (fun _ v _ => n - (intOf v).toNat)
  case atStart => exact ⟨0, 0, Nat.zero_le _, by omega, by omega, rfl, by go_num, hide (fun i hi h0 => by omega), hM⟩
  case round =>
    clear hM HM
    obtain ⟨k, z, hk, hz0, hz1, rfl, rfl, hall, hM⟩ := hrel
    by_cases hlt : k < n
    · have hkl : k < hs.length := by rw [h.len]; exact hlt
      obtain ⟨b, off, rfl, d5, d6⟩ := h.olds k hkl
      have hbb := hb _ (List.getElem_mem hkl)
      obtain ⟨x, hx⟩ : ∃ x, x = hs[k] := ⟨_, rfl⟩
      rw [← hx] at d5 d6 hbb
      obtain ⟨hb1, hb2⟩ := hbb
      have HX := hide hx
      have e1 : IntKind.i64.wrap (z + 1) = z + 1 := IntWalk.i64_in _ (by omega)
      have e2 : IntKind.i64.wrap (z + 1 + (x.m.vn : Int)) = z + 1 + (x.m.vn : Int) := IntWalk.i64_in _ (by omega)
      have e3 : IntKind.i64.wrap (10 * (x.m.wn : Int)) = 10 * (x.m.wn : Int) := IntWalk.i64_in _ (by omega)
      have e4 : IntKind.i64.wrap (z + 1 + (x.m.vn : Int) + 10 * (x.m.wn : Int)) = z + 1 + (x.m.vn : Int) + 10 * (x.m.wn : Int) := IntWalk.i64_in _ (by omega)
      have hstep : x.m.wn ≤ 400 → Hid (∀ i (hi : i < hs.length), i < k + 1 → hs[i].m.wn ≤ 400) := fun h4 => hide (fun i hi hik => by
        by_cases e : i = k
        · subst e; rw [← unhide HX]; exact h4
        · exact unhide hall i hi (by omega))
      clear HX hx hall hkl
      go_wp2_with (first | ((with_reducible refine wl_shape ?_); first | (apply wl_boxa; exact rfl; exact hM; exact rfl; exact rfl; clear hM; intro gg ww hM; simp only [putT, List.set_cons_succ, List.set_cons_zero]) | (apply wl_box1; exact rfl; exact hM; exact rfl; exact rfl; exact rfl; clear hM; intro gg ww hM; simp only [putT, List.set_cons_succ, List.set_cons_zero]) | (apply wl_alloc; exact rfl; exact hM; exact rfl; exact inferInstance; clear hM; intro gg ww hM; simp only [putT, List.set_cons_succ, List.set_cons_zero]) | (apply wl_ld; exact rfl; exact hM; exact rfl; exact rfl; exact inferInstance; exact inferInstance; simp only [putT, List.set_cons_succ, List.set_cons_zero]) | (apply wl_lda; exact rfl; exact hM; exact rfl; exact rfl; exact inferInstance; exact inferInstance; exact inferInstance; exact inferInstance; simp only [putT, List.set_cons_succ, List.set_cons_zero]) | (apply wl_ldr; exact rfl; exact hM; exact rfl; exact rfl; exact inferInstance; exact inferInstance; exact inferInstance; exact inferInstance; simp only [putT, List.set_cons_succ, List.set_cons_zero]) | (apply wl_st; exact rfl; exact hM; exact rfl; exact rfl; exact rfl; exact rfl; exact inferInstance; exact inferInstance; clear hM; intro ww hM; simp only [putT, List.set_cons_succ, List.set_cons_zero]) | (apply wl_sta; exact rfl; exact hM; exact rfl; exact rfl; exact rfl; exact all_oneCell_toArray One.out; exact inferInstance; exact inferInstance; exact inferInstance; clear hM; intro ww hM; simp only [putT, List.set_cons_succ, List.set_cons_zero]) | (apply wl_bs0; exact rfl; exact hM; exact rfl; exact inferInstance; clear hM; intro gg ww hM; simp only [putT, List.set_cons_succ, List.set_cons_zero]) | (apply wl_bs1a; exact rfl; exact hM; exact rfl; exact inferInstance; exact rfl; exact inferInstance; clear hM; intro gg ww hM; simp only [putT, List.set_cons_succ, List.set_cons_zero]) | (apply wl_bs11; exact rfl; exact hM; exact rfl; exact inferInstance; exact rfl; exact rfl; clear hM; intro gg ww hM; simp only [putT, List.set_cons_succ, List.set_cons_zero]) | (apply wl_conv; exact rfl; exact hM; exact rfl; exact rfl; exact inferInstance; exact inferInstance; simp only [putT, List.set_cons_succ, List.set_cons_zero])))
      refine wp_region_mc [] [] [] hM (by kernel_rfl) (by kernel_rfl) (by kernel_rfl) (by kernel_rfl) ?_; simp only [initS, Act.put, List.setIfInBounds_toArray, List.set_cons_succ, List.set_cons_zero, List.map_cons, List.map_nil]
      (repeat (first | (apply gm_move; (first | exact .inl rfl | exact .inr rfl); exact rfl; exact rfl; simp only [setD, List.set_cons_succ, List.set_cons_zero]) | (apply gm_ld; exact rfl; exact rfl; exact rfl; exact inferInstance; exact inferInstance; simp only [setD, List.set_cons_succ, List.set_cons_zero]) | (apply gm_lda; exact rfl; exact rfl; exact rfl; exact inferInstance; exact inferInstance; exact inferInstance; exact inferInstance; simp only [setD, List.set_cons_succ, List.set_cons_zero]) | (apply gm_ldr; exact rfl; exact rfl; exact rfl; exact inferInstance; exact inferInstance; exact inferInstance; exact inferInstance; simp only [setD, List.set_cons_succ, List.set_cons_zero]) | (apply gm_cmp true; exact rfl; exact rfl; exact rfl; exact rfl; (simp only [cmpB, Option.some.injEq, decide_eq_true_eq, ne_eq]; omega); simp only [setD, List.set_cons_succ, List.set_cons_zero]) | (apply gm_cmp false; exact rfl; exact rfl; exact rfl; exact rfl; (simp only [cmpB, Option.some.injEq, decide_eq_false_iff_not, ne_eq]; omega); simp only [setD, List.set_cons_succ, List.set_cons_zero]) | (apply gm_pick; exact rfl; exact rfl; exact rfl; exact rfl; exact rfl; simp only [setD, List.set_cons_succ, List.set_cons_zero, cond_true, cond_false]) | (apply gm_skip; exact rfl; simp only [setD, List.set_cons_succ, List.set_cons_zero]) | (apply gm_skipU; exact rfl; exact rfl; exact rfl; exact rfl; simp only [setD, List.set_cons_succ, List.set_cons_zero]) | (apply gm_moveP; (first | exact .inl rfl | exact .inr rfl); exact rfl; exact rfl; exact rfl; simp only [setD, List.set_cons_succ, List.set_cons_zero]) | (refine gw_isPure rfl ?_; apply gm_pure; exact rfl; intro K hK; go_simp; refine hK _ ?_; clear hK K; simp only [setD, List.set_cons_succ, List.set_cons_zero])))
      refine gw_nil ?_; intro γ w4 hC' hk'; simp only [slAct, slVals, Slot.get]
      clear hM
      have hM : Mem w noOwn w4 _ := hC'
      clear hC' hk'
      by_cases hbig : 4000 < z + 1 + (x.m.vn : Int) + 10 * (x.m.wn : Int)
      · go_wp2_with (first | ((with_reducible refine wl_shape ?_); first | (apply wl_boxa; exact rfl; exact hM; exact rfl; exact rfl; clear hM; intro gg ww hM; simp only [putT, List.set_cons_succ, List.set_cons_zero]) | (apply wl_box1; exact rfl; exact hM; exact rfl; exact rfl; exact rfl; clear hM; intro gg ww hM; simp only [putT, List.set_cons_succ, List.set_cons_zero]) | (apply wl_alloc; exact rfl; exact hM; exact rfl; exact inferInstance; clear hM; intro gg ww hM; simp only [putT, List.set_cons_succ, List.set_cons_zero]) | (apply wl_ld; exact rfl; exact hM; exact rfl; exact rfl; exact inferInstance; exact inferInstance; simp only [putT, List.set_cons_succ, List.set_cons_zero]) | (apply wl_lda; exact rfl; exact hM; exact rfl; exact rfl; exact inferInstance; exact inferInstance; exact inferInstance; exact inferInstance; simp only [putT, List.set_cons_succ, List.set_cons_zero]) | (apply wl_ldr; exact rfl; exact hM; exact rfl; exact rfl; exact inferInstance; exact inferInstance; exact inferInstance; exact inferInstance; simp only [putT, List.set_cons_succ, List.set_cons_zero]) | (apply wl_st; exact rfl; exact hM; exact rfl; exact rfl; exact rfl; exact rfl; exact inferInstance; exact inferInstance; clear hM; intro ww hM; simp only [putT, List.set_cons_succ, List.set_cons_zero]) | (apply wl_sta; exact rfl; exact hM; exact rfl; exact rfl; exact rfl; exact all_oneCell_toArray One.out; exact inferInstance; exact inferInstance; exact inferInstance; clear hM; intro ww hM; simp only [putT, List.set_cons_succ, List.set_cons_zero]) | (apply wl_bs0; exact rfl; exact hM; exact rfl; exact inferInstance; clear hM; intro gg ww hM; simp only [putT, List.set_cons_succ, List.set_cons_zero]) | (apply wl_bs1a; exact rfl; exact hM; exact rfl; exact inferInstance; exact rfl; exact inferInstance; clear hM; intro gg ww hM; simp only [putT, List.set_cons_succ, List.set_cons_zero]) | (apply wl_bs11; exact rfl; exact hM; exact rfl; exact inferInstance; exact rfl; exact rfl; clear hM; intro gg ww hM; simp only [putT, List.set_cons_succ, List.set_cons_zero]) | (apply wl_conv; exact rfl; exact hM; exact rfl; exact rfl; exact inferInstance; exact inferInstance; simp only [putT, List.set_cons_succ, List.set_cons_zero])))
        go_ret
        exact ⟨true, rfl, (fun h => by cases h), hM.grow⟩
      · go_wp2_with (first | ((with_reducible refine wl_shape ?_); first | (apply wl_boxa; exact rfl; exact hM; exact rfl; exact rfl; clear hM; intro gg ww hM; simp only [putT, List.set_cons_succ, List.set_cons_zero]) | (apply wl_box1; exact rfl; exact hM; exact rfl; exact rfl; exact rfl; clear hM; intro gg ww hM; simp only [putT, List.set_cons_succ, List.set_cons_zero]) | (apply wl_alloc; exact rfl; exact hM; exact rfl; exact inferInstance; clear hM; intro gg ww hM; simp only [putT, List.set_cons_succ, List.set_cons_zero]) | (apply wl_ld; exact rfl; exact hM; exact rfl; exact rfl; exact inferInstance; exact inferInstance; simp only [putT, List.set_cons_succ, List.set_cons_zero]) | (apply wl_lda; exact rfl; exact hM; exact rfl; exact rfl; exact inferInstance; exact inferInstance; exact inferInstance; exact inferInstance; simp only [putT, List.set_cons_succ, List.set_cons_zero]) | (apply wl_ldr; exact rfl; exact hM; exact rfl; exact rfl; exact inferInstance; exact inferInstance; exact inferInstance; exact inferInstance; simp only [putT, List.set_cons_succ, List.set_cons_zero]) | (apply wl_st; exact rfl; exact hM; exact rfl; exact rfl; exact rfl; exact rfl; exact inferInstance; exact inferInstance; clear hM; intro ww hM; simp only [putT, List.set_cons_succ, List.set_cons_zero]) | (apply wl_sta; exact rfl; exact hM; exact rfl; exact rfl; exact rfl; exact all_oneCell_toArray One.out; exact inferInstance; exact inferInstance; exact inferInstance; clear hM; intro ww hM; simp only [putT, List.set_cons_succ, List.set_cons_zero]) | (apply wl_bs0; exact rfl; exact hM; exact rfl; exact inferInstance; clear hM; intro gg ww hM; simp only [putT, List.set_cons_succ, List.set_cons_zero]) | (apply wl_bs1a; exact rfl; exact hM; exact rfl; exact inferInstance; exact rfl; exact inferInstance; clear hM; intro gg ww hM; simp only [putT, List.set_cons_succ, List.set_cons_zero]) | (apply wl_bs11; exact rfl; exact hM; exact rfl; exact inferInstance; exact rfl; exact rfl; clear hM; intro gg ww hM; simp only [putT, List.set_cons_succ, List.set_cons_zero]) | (apply wl_conv; exact rfl; exact hM; exact rfl; exact rfl; exact inferInstance; exact inferInstance; simp only [putT, List.set_cons_succ, List.set_cons_zero])))
        go_roundw
        case rel => exact ⟨k + 1, _, by omega, by omega, by omega, rfl, by go_num, hstep (by omega), hM⟩
        case measure => simp [intOf]; omega
    · go_wp2_with (first | ((with_reducible refine wl_shape ?_); first | (apply wl_boxa; exact rfl; exact hM; exact rfl; exact rfl; clear hM; intro gg ww hM; simp only [putT, List.set_cons_succ, List.set_cons_zero]) | (apply wl_box1; exact rfl; exact hM; exact rfl; exact rfl; exact rfl; clear hM; intro gg ww hM; simp only [putT, List.set_cons_succ, List.set_cons_zero]) | (apply wl_alloc; exact rfl; exact hM; exact rfl; exact inferInstance; clear hM; intro gg ww hM; simp only [putT, List.set_cons_succ, List.set_cons_zero]) | (apply wl_ld; exact rfl; exact hM; exact rfl; exact rfl; exact inferInstance; exact inferInstance; simp only [putT, List.set_cons_succ, List.set_cons_zero]) | (apply wl_lda; exact rfl; exact hM; exact rfl; exact rfl; exact inferInstance; exact inferInstance; exact inferInstance; exact inferInstance; simp only [putT, List.set_cons_succ, List.set_cons_zero]) | (apply wl_ldr; exact rfl; exact hM; exact rfl; exact rfl; exact inferInstance; exact inferInstance; exact inferInstance; exact inferInstance; simp only [putT, List.set_cons_succ, List.set_cons_zero]) | (apply wl_st; exact rfl; exact hM; exact rfl; exact rfl; exact rfl; exact rfl; exact inferInstance; exact inferInstance; clear hM; intro ww hM; simp only [putT, List.set_cons_succ, List.set_cons_zero]) | (apply wl_sta; exact rfl; exact hM; exact rfl; exact rfl; exact rfl; exact all_oneCell_toArray One.out; exact inferInstance; exact inferInstance; exact inferInstance; clear hM; intro ww hM; simp only [putT, List.set_cons_succ, List.set_cons_zero]) | (apply wl_bs0; exact rfl; exact hM; exact rfl; exact inferInstance; clear hM; intro gg ww hM; simp only [putT, List.set_cons_succ, List.set_cons_zero]) | (apply wl_bs1a; exact rfl; exact hM; exact rfl; exact inferInstance; exact rfl; exact inferInstance; clear hM; intro gg ww hM; simp only [putT, List.set_cons_succ, List.set_cons_zero]) | (apply wl_bs11; exact rfl; exact hM; exact rfl; exact inferInstance; exact rfl; exact rfl; clear hM; intro gg ww hM; simp only [putT, List.set_cons_succ, List.set_cons_zero]) | (apply wl_conv; exact rfl; exact hM; exact rfl; exact rfl; exact inferInstance; exact inferInstance; simp only [putT, List.set_cons_succ, List.set_cons_zero])))
      go_ret
      exact ⟨false, rfl, (fun _ x hx => by
        obtain ⟨i, hi, rfl⟩ := List.mem_iff_getElem.1 hx
        exact unhide hall i hi (by rw [h.len] at hi; omega)), hM.grow⟩
end Go.Proofs.Ytgdfdombcngpnaa
