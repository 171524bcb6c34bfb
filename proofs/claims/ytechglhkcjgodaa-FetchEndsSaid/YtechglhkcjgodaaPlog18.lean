/- plog: Append of a record that opens a transaction. Written by plog17.py. -/
import Derived.Test.YtechglhkcjgodaaPlog17
namespace Go.Proofs.Ytechglhkcjgodaa
open Go.RowKit Go.MapKept
set_option linter.unusedSimpArgs false

set_option maxRecDepth 100000 in
set_option maxHeartbeats 8000000 in
theorem Append_lay_new (w : World) (g gm : Nat) (A B : Option Addr) (ca cb : Nat) (m : PL) (vs : List Value) (S V : Nat → Prop) (h : LogHas w g gm A B ca cb m vs S V) (r : Rec) (n c : Nat) (D : Option Addr) (hb : Bytes w w.heap.size D n r.v) (hr : PL.isRec r = true) (hlen : m.recs.length ≤ 1000) (hep : 0 ≤ m.ep r.p ∧ r.e = m.ep r.p) (hsl : m.spans.length ≤ 1000000) (hin : ∀ x ∈ m.recs, PL.isRec x = true) (hi : m.recs.findIdx? (sameRec r) = none) (hf : m.fits r = 0) (hD : 0 < n → ∀ ad, D = some ad → ¬ S ad.block) (hnc : n ≤ c) (hsp : m.spans.findIdx? (fun s => decide (s.p = r.p) && decide (s.e = r.e) && decide (s.t = r.t)) = none) :
    Calls Try.prog 28 #[.pointer (some ⟨g, 0, none⟩), .agg #[.int .i64 r.p, .int .i64 r.e, .int .i64 r.t, .int .i64 r.s, .slice D n c]] w fun x w' => x = .returned (.tuple #[.int .i64 (m.append r).2.1, .int .i64 (m.append r).2.2]) ∧ Step w g (m.append r).1 S V w' := by
  have hl : r.v.length = n := hb.len
  have HI : ∀ w1, Calls Try.prog 45 #[.agg #[.int .i64 r.p, .int .i64 r.e, .int .i64 r.t, .int .i64 r.s, .slice D n c]] w1 fun x w' => x = .returned (.bool true) ∧ Grow w1 noOwn w' := fun w1 => by
    have := isRecord_any r.p r.e r.t r.s n c D r.v hl w1
    rwa [hr] at this
  have hp := (isRec_p hr).1
  obtain ⟨ev, hev⟩ : ∃ ev, ev = r.e := ⟨_, rfl⟩
  have hlk : (.tuple #[(epf m r.p).getD (.int .i64 0), .bool (epf m r.p).isSome] : Value) = .tuple #[.int .i64 ev, .bool true] := by
    rw [epf_get m r.p hp, epf_some m r.p hp, show m.epv r.p = ev by rw [hev, hep.2]; exact if_pos hep.1]
    simp [hep.1]
  have hap : m.append r = ({ m with recs := m.recs ++ [r], spans := m.spans ++ [⟨r.p, r.e, r.t, m.recs.length, 0⟩] }, (m.recs.length : Int), 0) := by rw [append_new m r hr hep.1 hep.2 hi, if_pos hf, if_pos (by rw [PL.spanAt_none hsp]; omega)]
  have HA : ∀ w1, Grow w noOwn w1 → Calls Try.prog 46 #[.pointer (some ⟨g, 0, none⟩), .agg #[.int .i64 r.p, .int .i64 r.e, .int .i64 r.t, .int .i64 r.s, .slice D n c]] w1 fun x w' => x = .returned (.int .i64 (-1)) ∧ Grow w1 noOwn w' := fun w1 hg => by
    have := again_any w1 g gm A B ca cb m vs (h.read.grow hg) (by omega) r n c D
    rwa [show m.againAt r = -1 from by unfold PL.againAt; rw [show m.recs.findIdx? (fun x => decide (x.p = r.p) && decide (x.e = r.e) && decide (x.s = r.s)) = none from hi]] at this
  have HFit : ∀ w1, Grow w noOwn w1 → Calls Try.prog 48 #[.pointer (some ⟨g, 0, none⟩), .agg #[.int .i64 r.p, .int .i64 r.e, .int .i64 r.t, .int .i64 r.s, .slice D n c]] w1 fun x w' => x = .returned (.int .i64 0) ∧ Grow w1 noOwn w' := fun w1 hg => by
    have := fits_any w1 g gm A B ca cb m vs (h.read.grow hg) hin hlen (by omega) r n c D
    rwa [hf] at this
  have HSp : ∀ w1, Grow w noOwn w1 → Calls Try.prog 49 #[.pointer (some ⟨g, 0, none⟩), .int .i64 r.p, .int .i64 r.e, .int .i64 r.t] w1 fun x w' => x = .returned (.int .i64 (-1)) ∧ Grow w1 noOwn w' := fun w1 hg => by
    have := span_any w1 g gm A B ca cb m vs (h.read.grow hg) (by omega) r.p r.e r.t
    rwa [PL.spanAt_none hsp] at this
  rw [hap]
  have hn : n ≤ 200 := by
    simp only [PL.isRec, Bool.and_eq_true, decide_eq_true_eq] at hr
    omega
  have HK := hide hlk
  have HH := hide h
  clear hl hr hep hlk hp hi hap hf hsp hin
  have hR := h.read
  have hL := h.mem
  clear h
  have hM := Mem.nil w noOwn
  have tok : True := trivial
  go_enter Try.func28, Try.ntmps28
  go_wp2_with (first
    | (have _t := tok; refine wpList_box_mem hM rfl 42 _ rfl (.agg #[.int .i64 r.p, .int .i64 r.e, .int .i64 r.t, .int .i64 r.s, .slice D n c]) rfl (recVals r (.slice D n c)).toArray rfl ?_; clear tok hM; intro g1 w1 hM)
    | (refine BigFrame.wpList_want rfl fun _ hK => wp_load_blk 42 _ rfl hM 0 g1 _ _ rfl rfl _ Try.underlying42 rfl (by kernel_rfl) (hK _ _ ?_))
    | (go_at_call 45; refine (HI w1).mono ?_; rintro e1 w2 ⟨rfl, hg⟩; replace hM := hM.call hg))
  have hq : Quiet (fun w' => Mem w noOwn w' [.blk g1 42 (recVals r (.slice D n c)).toArray]) (fun w1 w2 => Grow w1 noOwn w2) (fun _ _ => True) := ⟨fun w _ => Grow.refl w _, fun _ _ => trivial⟩
  refine wp_region_ghost (C := fun w' => Mem w noOwn w' [.blk g1 42 (recVals r (.slice D n c)).toArray]) (D := fun _ => True) (R := fun w1 w2 => Grow w1 noOwn w2) (R' := fun _ _ => True) [] [] [] (by kernel_rfl) (by kernel_rfl) (by kernel_rfl) (by kernel_rfl) hM.drew trivial (fun _ _ _ _ _ h => h) hq.1 hq.2 ?_
  simp only [initS, Act.put, List.setIfInBounds_toArray, List.set_cons_succ, List.set_cons_zero, List.map_cons, List.map_nil]
  repeat (first
    | (refine gw_move hq rfl _ (.inl rfl) _ rfl ?_; simp only [setD, List.set_cons_succ, List.set_cons_zero])
    | (refine gw_load1 hq rfl 80 _ rfl ⟨g, 2, none⟩ rfl _ Try.underlying80 rfl (.map (some gm)) (fun w' hC => (hR.grow hC.grow).blk.cell 2) ?_; simp only [setD, List.set_cons_succ, List.set_cons_zero])
    | (refine gw_load1 hq rfl 3 _ rfl ⟨g1, 0, none⟩ rfl _ Try.underlying3 rfl (.int .i64 r.p) (fun w' hC => hC.cell 0 rfl 0) ?_; simp only [setD, List.set_cons_succ, List.set_cons_zero])
    | (refine gw_lookup hq rfl 80 _ _ true rfl gm (epf m) (fun w' hC => (hR.grow hC.grow).map) 3 3 Try.underlying80 Try.underlying3 (.int .i64 0) (by kernel_rfl) rfl r.p rfl (.tuple #[.int .i64 ev, .bool true]) (unhide HK) ?_; simp only [setD, List.set_cons_succ, List.set_cons_zero])
    | (refine gw_pure_ex hq rfl (fun K hK => ?_); go_simp; refine hK _ ?_; clear hK K; simp only [setD, List.set_cons_succ, List.set_cons_zero]))
  intro γ w4 hC4 hk4
  simp only [slAct, slVals, Slot.get]
  have d1 : w4.cell? ⟨g1, 1, none⟩ = some (.int .i64 r.e) := hC4.cell 0 rfl 1
  clear hM hk4
  go_wp2_with (first
    | (refine BigFrame.wpList_want rfl fun _ hK => wp_load_blk 42 _ rfl hC4 0 g1 _ _ rfl rfl _ Try.underlying42 rfl (by kernel_rfl) (hK _ _ ?_))
    | (go_at_call 46; refine (HA _ hC4.grow).mono ?_; rintro e1 w5 ⟨rfl, hg5⟩; replace hC4 := hC4.call hg5)
    | (go_at_call 48; refine (HFit _ hC4.grow).mono ?_; rintro e1 w6 ⟨rfl, hg6⟩; replace hC4 := hC4.call hg6; have c0 : w6.cell? ⟨g, 0, none⟩ = some (.slice A m.recs.length ca) := (hR.grow hC4.grow).blk.cell 0; have d0 : w6.cell? ⟨g1, 0, none⟩ = some (.int .i64 r.p) := hC4.cell 0 rfl 0; have d01 : w6.cell? ⟨g1, 1, none⟩ = some (.int .i64 r.e) := hC4.cell 0 rfl 1; have d02 : w6.cell? ⟨g1, 2, none⟩ = some (.int .i64 r.t) := hC4.cell 0 rfl 2)
    | (go_at_call 49; refine (HSp _ hC4.grow).mono ?_; rintro e1 w6 ⟨rfl, hg7⟩; replace hC4 := hC4.call hg7))
  have hI0 : Mem w S w6 ([Item.blk g1 42 (recVals r (.slice D n c)).toArray, Item.row (.slice A m.recs.length ca) 42 5 m.recs.length (recCells m.recs vs)] ++ Item.row (.slice B m.spans.length cb) 39 5 m.spans.length (spnCells m.spans) :: [Item.blk g 82 #[.slice A m.recs.length ca, .slice B m.spans.length cb, .map (some gm)], Item.obj gm (IsMap (epf m))]) := hL.join hC4
  have hI : Mem w S w6 [Item.row (.slice B m.spans.length cb) 39 5 m.spans.length (spnCells m.spans), Item.blk g1 42 (recVals r (.slice D n c)).toArray, Item.row (.slice A m.recs.length ca) 42 5 m.recs.length (recCells m.recs vs), Item.blk g 82 #[.slice A m.recs.length ca, .slice B m.spans.length cb, .map (some gm)], Item.obj gm (IsMap (epf m))] := hI0.perm List.perm_middle
  clear hI0
  have hI2 := hI.tail
  have hne : ∀ x ∈ [Item.blk g1 42 (recVals r (.slice D n c)).toArray, Item.row (.slice A m.recs.length ca) 42 5 m.recs.length (recCells m.recs vs), Item.blk g 82 #[.slice A m.recs.length ca, .slice B m.spans.length cb, .map (some gm)], Item.obj gm (IsMap (epf m))], ∀ g, x.foot g → ¬ (Value.slice B m.spans.length cb).ownBlock = some g := fun x hx g h1 h2 => (List.pairwise_cons.1 hI.apart).1 x hx g h2 h1
  have hown : ∀ g, g < w.heap.size → (Value.slice B m.spans.length cb).ownBlock = some g → S g := fun g hg h2 => (hI.own_ 0 rfl h2).resolve_right (by omega)
  have hCR : ∀ w1 w2, (Mem w S w1 [Item.blk g1 42 (recVals r (.slice D n c)).toArray, Item.row (.slice A m.recs.length ca) 42 5 m.recs.length (recCells m.recs vs), Item.blk g 82 #[.slice A m.recs.length ca, .slice B m.spans.length cb, .map (some gm)], Item.obj gm (IsMap (epf m))] ∧ w6.heap.size ≤ w1.heap.size) → Grow w1 noOwn w2 → (Mem w S w2 [Item.blk g1 42 (recVals r (.slice D n c)).toArray, Item.row (.slice A m.recs.length ca) 42 5 m.recs.length (recCells m.recs vs), Item.blk g 82 #[.slice A m.recs.length ca, .slice B m.spans.length cb, .map (some gm)], Item.obj gm (IsMap (epf m))] ∧ w6.heap.size ≤ w2.heap.size) ∧ Grow w1 noOwn w2 := fun w1 w2 h k => ⟨⟨h.1.call k, Nat.le_trans h.2 k.size⟩, k⟩
  have hq : Quiet (fun w' => Mem w S w' [Item.blk g1 42 (recVals r (.slice D n c)).toArray, Item.row (.slice A m.recs.length ca) 42 5 m.recs.length (recCells m.recs vs), Item.blk g 82 #[.slice A m.recs.length ca, .slice B m.spans.length cb, .map (some gm)], Item.obj gm (IsMap (epf m))] ∧ w6.heap.size ≤ w'.heap.size) (fun w1 w2 => Grow w1 noOwn w2) (fun _ _ => True) := ⟨fun w _ => Grow.refl w _, fun _ _ => trivial⟩
  refine wp_region_ghost_tail 17 _ rfl (by kernel_rfl) (C := fun w' => Mem w S w' [Item.blk g1 42 (recVals r (.slice D n c)).toArray, Item.row (.slice A m.recs.length ca) 42 5 m.recs.length (recCells m.recs vs), Item.blk g 82 #[.slice A m.recs.length ca, .slice B m.spans.length cb, .map (some gm)], Item.obj gm (IsMap (epf m))] ∧ w6.heap.size ≤ w'.heap.size) (D := fun w' => w'.ownsRow 0 39 5 (.slice B m.spans.length cb) m.spans.length (spnCells m.spans))
    (R := fun w1 w2 => Grow w1 noOwn w2) (R' := fun _ _ => True) [14] [13, 14] [14] (by kernel_rfl) (by kernel_rfl) (by kernel_rfl) (by kernel_rfl) ⟨hI2.drew, Nat.le_refl _⟩ (hI.drew.row 0 rfl) (fun w1 w2 _ _ hg h => ownsRow_grow h hg) hq.1 hq.2 ?_
  simp only [List.take_succ_cons, List.take_zero]
  simp only [initS, Act.put, List.setIfInBounds_toArray, List.set_cons_succ, List.set_cons_zero, List.map_cons, List.map_nil]
  repeat (first
    | (refine gw_move hq rfl _ (.inl rfl) _ rfl ?_; simp only [setD, List.set_cons_succ, List.set_cons_zero])
    | (refine gw_load1 hq rfl 36 _ rfl ⟨g, 1, none⟩ rfl _ Try.underlying36 rfl (.slice B m.spans.length cb) (fun w' hC => hC.1.cell 2 rfl 1) ?_; simp only [setD, List.set_cons_succ, List.set_cons_zero])
    | (refine gw_load1 hq rfl 3 _ rfl ⟨g1, 0, none⟩ rfl _ Try.underlying3 rfl (.int .i64 r.p) (fun w' hC => hC.1.cell 0 rfl 0) ?_; simp only [setD, List.set_cons_succ, List.set_cons_zero])
    | (refine gw_load1 hq rfl 3 _ rfl ⟨g1, 1, none⟩ rfl _ Try.underlying3 rfl (.int .i64 r.e) (fun w' hC => hC.1.cell 0 rfl 1) ?_; simp only [setD, List.set_cons_succ, List.set_cons_zero])
    | (refine gw_load1 hq rfl 3 _ rfl ⟨g1, 2, none⟩ rfl _ Try.underlying3 rfl (.int .i64 r.t) (fun w' hC => hC.1.cell 0 rfl 2) ?_; simp only [setD, List.set_cons_succ, List.set_cons_zero])
    | (refine gw_row1 w6.heap.size 5 rfl (by rfl) (by rfl) (fun w' hC => hC.2) hCR (fun _ _ h => h) 36 39 _ rfl (.agg #[.int .i64 r.p, .int .i64 r.e, .int .i64 r.t, .int .i64 m.recs.length, .int .i64 0]) rfl Try.underlying36 _ 40 spnrow (by decide) (by decide) (spnVals ⟨r.p, r.e, r.t, m.recs.length, 0⟩) rfl rfl ?_; simp only [setD, List.set_cons_succ, List.set_cons_zero])
    | (refine gw_append_own w6.heap.size 5 rfl (by rfl) (by rfl) (by rfl) (.slice B m.spans.length cb) (fun w' hC => hC.2) (fun w1 w2 hC _ hg => ⟨⟨hC.1.callFar hg hne hown, Nat.le_trans hC.2 hg.size⟩, trivial⟩) (fun _ _ h => h) 105 36 rfl 39 m.spans.length rfl (spnCells m.spans) (fun w' _ h => h) w6.heap.size 1 (spnVals ⟨r.p, r.e, r.t, m.recs.length, 0⟩) rfl (spnVals_one _) Try.underlying36 _ 40 spnrow rfl (by decide) (by unfold maxLen; omega) (by omega) ?_; simp only [setD, List.set_cons_succ, List.set_cons_zero])
    | (refine gw_pure_ex hq rfl (fun K hK => ?_); go_simp; refine hK _ ?_; clear hK K; simp only [setD, List.set_cons_succ, List.set_cons_zero]))
  intro γ2 wa hCa hka
  have hva := hka 14 106 _ rfl rfl rfl
  obtain ⟨B4, cb4, e4, _, _⟩ := row_form hva.1
  have hMa := hI.addRow hCa.1 hva
  rw [e4] at hMa
  clear hka hva hI hI2 hne hown hq hCR
  simp only [slAct, slVals, Slot.get, Nat.reduceAdd, e4]
  refine wp_store1 36 _ _ rfl hMa 3 g 1 _ _ rfl (by simp) rfl (.slice B4 (m.spans.length + 1) cb4) rfl rfl (by kernel_rfl) ?_
  intro w7 hM7
  clear hMa hCa hC4
  have hJ : Mem w S w7 [Item.row (.slice B4 (m.spans ++ [(⟨r.p, r.e, r.t, m.recs.length, 0⟩ : Spn)]).length cb4) 39 5 (m.spans ++ [(⟨r.p, r.e, r.t, m.recs.length, 0⟩ : Spn)]).length (spnCells (m.spans ++ [(⟨r.p, r.e, r.t, m.recs.length, 0⟩ : Spn)])), Item.blk g1 42 (recVals r (.slice D n c)).toArray, Item.row (.slice A m.recs.length ca) 42 5 m.recs.length (recCells m.recs vs), Item.blk g 82 #[.slice A m.recs.length ca, .slice B4 (m.spans ++ [(⟨r.p, r.e, r.t, m.recs.length, 0⟩ : Spn)]).length cb4, .map (some gm)], Item.obj gm (IsMap (epf m))] := by
    have e9 : spnCells (m.spans ++ [⟨r.p, r.e, r.t, m.recs.length, 0⟩]) = spnCells m.spans ++ spnVals ⟨r.p, r.e, r.t, m.recs.length, 0⟩ := by rw [spnCells_append]; simp [spnCells]
    rw [e9, show (m.spans ++ [(⟨r.p, r.e, r.t, m.recs.length, 0⟩ : Spn)]).length = m.spans.length + 1 from by simp]
    exact hM7
  have d4 : w7.cell? ⟨g1, 4, none⟩ = some (.slice D n c) := hJ.cell 1 rfl 4
  go_wp2_with (first
    | (go_at_call 50; refine (Clone_own w7 n c D r.v hnc (bytes_far hb hJ.grow hD) (by omega)).mono ?_; rintro e1 w8 ⟨⟨A8, c8, rfl, hrow8, hnew8⟩, hg8⟩; have hM8 := hJ.push (x := .row (.slice A8 n c8) 5 1 n (r.v.map V8)) (hJ.grow.then_ hg8) (fun k hk => hg8.block k hk (fun e => e)) hrow8 hnew8)
    | (refine wpList_store1 rfl 40 _ _ rfl hM8 2 g1 4 _ _ rfl (by simp [recVals]) rfl _ rfl rfl (by kernel_rfl) ?_; intro w9 hM9))
  have hK0 : Mem w S w9 ([Item.row (.slice A8 n c8) 5 1 n (r.v.map V8), Item.row (.slice B4 (m.spans ++ [(⟨r.p, r.e, r.t, m.recs.length, 0⟩ : Spn)]).length cb4) 39 5 (m.spans ++ [(⟨r.p, r.e, r.t, m.recs.length, 0⟩ : Spn)]).length (spnCells (m.spans ++ [(⟨r.p, r.e, r.t, m.recs.length, 0⟩ : Spn)])), Item.blk g1 42 (recVals r (.slice A8 n c8)).toArray] ++ Item.row (.slice A m.recs.length ca) 42 5 m.recs.length (recCells m.recs vs) :: [Item.blk g 82 #[.slice A m.recs.length ca, .slice B4 (m.spans ++ [(⟨r.p, r.e, r.t, m.recs.length, 0⟩ : Spn)]).length cb4, .map (some gm)], Item.obj gm (IsMap (epf m))]) := hM9
  have hK1 : Mem w S w9 (Item.row (.slice A m.recs.length ca) 42 5 m.recs.length (recCells m.recs vs) :: ([Item.row (.slice A8 n c8) 5 1 n (r.v.map V8), Item.row (.slice B4 (m.spans ++ [(⟨r.p, r.e, r.t, m.recs.length, 0⟩ : Spn)]).length cb4) 39 5 (m.spans ++ [(⟨r.p, r.e, r.t, m.recs.length, 0⟩ : Spn)]).length (spnCells (m.spans ++ [(⟨r.p, r.e, r.t, m.recs.length, 0⟩ : Spn)])), Item.blk g1 42 (recVals r (.slice A8 n c8)).toArray] ++ [Item.blk g 82 #[.slice A m.recs.length ca, .slice B4 (m.spans ++ [(⟨r.p, r.e, r.t, m.recs.length, 0⟩ : Spn)]).length cb4, .map (some gm)], Item.obj gm (IsMap (epf m))])) := hK0.perm List.perm_middle
  have hK : Mem w S w9 [Item.row (.slice A m.recs.length ca) 42 5 m.recs.length (recCells m.recs vs), Item.row (.slice A8 n c8) 5 1 n (r.v.map V8), Item.blk g1 42 (recVals r (.slice A8 n c8)).toArray, Item.row (.slice B4 (m.spans ++ [(⟨r.p, r.e, r.t, m.recs.length, 0⟩ : Spn)]).length cb4) 39 5 (m.spans ++ [(⟨r.p, r.e, r.t, m.recs.length, 0⟩ : Spn)]).length (spnCells (m.spans ++ [(⟨r.p, r.e, r.t, m.recs.length, 0⟩ : Spn)])), Item.blk g 82 #[.slice A m.recs.length ca, .slice B4 (m.spans ++ [(⟨r.p, r.e, r.t, m.recs.length, 0⟩ : Spn)]).length cb4, .map (some gm)], Item.obj gm (IsMap (epf m))] := hK1.perm (List.Perm.cons _ (List.Perm.cons _ (List.Perm.swap _ _ _)))
  clear hK0 hK1
  have hK2 := hK.tail
  have hne : ∀ x ∈ [Item.row (.slice A8 n c8) 5 1 n (r.v.map V8), Item.blk g1 42 (recVals r (.slice A8 n c8)).toArray, Item.row (.slice B4 (m.spans ++ [(⟨r.p, r.e, r.t, m.recs.length, 0⟩ : Spn)]).length cb4) 39 5 (m.spans ++ [(⟨r.p, r.e, r.t, m.recs.length, 0⟩ : Spn)]).length (spnCells (m.spans ++ [(⟨r.p, r.e, r.t, m.recs.length, 0⟩ : Spn)])), Item.blk g 82 #[.slice A m.recs.length ca, .slice B4 (m.spans ++ [(⟨r.p, r.e, r.t, m.recs.length, 0⟩ : Spn)]).length cb4, .map (some gm)], Item.obj gm (IsMap (epf m))], ∀ g, x.foot g → ¬ (Value.slice A m.recs.length ca).ownBlock = some g := fun x hx g h1 h2 => (List.pairwise_cons.1 hK.apart).1 x hx g h2 h1
  have hown : ∀ g, g < w.heap.size → (Value.slice A m.recs.length ca).ownBlock = some g → S g := fun g hg h2 => (hK.own_ 0 rfl h2).resolve_right (by omega)
  have hCR : ∀ w1 w2, (Mem w S w1 [Item.row (.slice A8 n c8) 5 1 n (r.v.map V8), Item.blk g1 42 (recVals r (.slice A8 n c8)).toArray, Item.row (.slice B4 (m.spans ++ [(⟨r.p, r.e, r.t, m.recs.length, 0⟩ : Spn)]).length cb4) 39 5 (m.spans ++ [(⟨r.p, r.e, r.t, m.recs.length, 0⟩ : Spn)]).length (spnCells (m.spans ++ [(⟨r.p, r.e, r.t, m.recs.length, 0⟩ : Spn)])), Item.blk g 82 #[.slice A m.recs.length ca, .slice B4 (m.spans ++ [(⟨r.p, r.e, r.t, m.recs.length, 0⟩ : Spn)]).length cb4, .map (some gm)], Item.obj gm (IsMap (epf m))] ∧ w9.heap.size ≤ w1.heap.size) → Grow w1 noOwn w2 → (Mem w S w2 [Item.row (.slice A8 n c8) 5 1 n (r.v.map V8), Item.blk g1 42 (recVals r (.slice A8 n c8)).toArray, Item.row (.slice B4 (m.spans ++ [(⟨r.p, r.e, r.t, m.recs.length, 0⟩ : Spn)]).length cb4) 39 5 (m.spans ++ [(⟨r.p, r.e, r.t, m.recs.length, 0⟩ : Spn)]).length (spnCells (m.spans ++ [(⟨r.p, r.e, r.t, m.recs.length, 0⟩ : Spn)])), Item.blk g 82 #[.slice A m.recs.length ca, .slice B4 (m.spans ++ [(⟨r.p, r.e, r.t, m.recs.length, 0⟩ : Spn)]).length cb4, .map (some gm)], Item.obj gm (IsMap (epf m))] ∧ w9.heap.size ≤ w2.heap.size) ∧ Grow w1 noOwn w2 := fun w1 w2 h k => ⟨⟨h.1.call k, Nat.le_trans h.2 k.size⟩, k⟩
  have hq : Quiet (fun w' => Mem w S w' [Item.row (.slice A8 n c8) 5 1 n (r.v.map V8), Item.blk g1 42 (recVals r (.slice A8 n c8)).toArray, Item.row (.slice B4 (m.spans ++ [(⟨r.p, r.e, r.t, m.recs.length, 0⟩ : Spn)]).length cb4) 39 5 (m.spans ++ [(⟨r.p, r.e, r.t, m.recs.length, 0⟩ : Spn)]).length (spnCells (m.spans ++ [(⟨r.p, r.e, r.t, m.recs.length, 0⟩ : Spn)])), Item.blk g 82 #[.slice A m.recs.length ca, .slice B4 (m.spans ++ [(⟨r.p, r.e, r.t, m.recs.length, 0⟩ : Spn)]).length cb4, .map (some gm)], Item.obj gm (IsMap (epf m))] ∧ w9.heap.size ≤ w'.heap.size) (fun w1 w2 => Grow w1 noOwn w2) (fun _ _ => True) := ⟨fun w _ => Grow.refl w _, fun _ _ => trivial⟩
  refine wp_region_ghost_tail 10 _ rfl (by kernel_rfl) (C := fun w' => Mem w S w' [Item.row (.slice A8 n c8) 5 1 n (r.v.map V8), Item.blk g1 42 (recVals r (.slice A8 n c8)).toArray, Item.row (.slice B4 (m.spans ++ [(⟨r.p, r.e, r.t, m.recs.length, 0⟩ : Spn)]).length cb4) 39 5 (m.spans ++ [(⟨r.p, r.e, r.t, m.recs.length, 0⟩ : Spn)]).length (spnCells (m.spans ++ [(⟨r.p, r.e, r.t, m.recs.length, 0⟩ : Spn)])), Item.blk g 82 #[.slice A m.recs.length ca, .slice B4 (m.spans ++ [(⟨r.p, r.e, r.t, m.recs.length, 0⟩ : Spn)]).length cb4, .map (some gm)], Item.obj gm (IsMap (epf m))] ∧ w9.heap.size ≤ w'.heap.size) (D := fun w' => w'.ownsRow 0 42 5 (.slice A m.recs.length ca) m.recs.length (recCells m.recs vs))
    (R := fun w1 w2 => Grow w1 noOwn w2) (R' := fun _ _ => True) [7] [6, 7] [7] (by kernel_rfl) (by kernel_rfl) (by kernel_rfl) (by kernel_rfl) ⟨hK2.drew, Nat.le_refl _⟩ (hK.drew.row 0 rfl) (fun w1 w2 _ _ hg h => ownsRow_grow h hg) hq.1 hq.2 ?_
  simp only [List.take_succ_cons, List.take_zero]
  simp only [initS, Act.put, List.setIfInBounds_toArray, List.set_cons_succ, List.set_cons_zero, List.map_cons, List.map_nil]
  repeat (first
    | (refine gw_move hq rfl _ (.inl rfl) _ rfl ?_; simp only [setD, List.set_cons_succ, List.set_cons_zero])
    | (refine gw_load1 hq rfl 29 _ rfl ⟨g, 0, none⟩ rfl _ Try.underlying29 rfl (.slice A m.recs.length ca) (fun w' hC => hC.1.cell 3 rfl 0) ?_; simp only [setD, List.set_cons_succ, List.set_cons_zero])
    | (refine gw_load_blk hq rfl 42 _ rfl g1 42 (recVals r (.slice A8 n c8)).toArray rfl (fun w' hC => hC.1.blk 1 rfl) _ Try.underlying42 rfl (by kernel_rfl) ?_; simp only [setD, List.set_cons_succ, List.set_cons_zero])
    | (refine gw_row1 w9.heap.size 5 rfl (by rfl) (by rfl) (fun w' hC => hC.2) hCR (fun _ _ h => h) 29 42 _ rfl (.agg (recVals r (.slice A8 n c8)).toArray) rfl Try.underlying29 _ 56 recrow (by decide) (by decide) (recVals r (.slice A8 n c8)) rfl rfl ?_; simp only [setD, List.set_cons_succ, List.set_cons_zero])
    | (refine gw_append_own w9.heap.size 5 rfl (by rfl) (by rfl) (by rfl) (.slice A m.recs.length ca) (fun w' hC => hC.2) (fun w1 w2 hC _ hg => ⟨⟨hC.1.callFar hg hne hown, Nat.le_trans hC.2 hg.size⟩, trivial⟩) (fun _ _ h => h) 119 29 rfl 42 m.recs.length rfl (recCells m.recs vs) (fun w' _ h => h) w9.heap.size 1 (recVals r (.slice A8 n c8)) rfl (recVals_one r _ _ _) Try.underlying29 _ 56 recrow rfl (by decide) (by unfold maxLen; omega) (by omega) ?_; simp only [setD, List.set_cons_succ, List.set_cons_zero])
    | (refine gw_pure_ex hq rfl (fun K hK => ?_); go_simp; refine hK _ ?_; clear hK K; simp only [setD, List.set_cons_succ, List.set_cons_zero]))
  intro γ3 wb hCb hkb
  have hvb := hkb 7 120 _ rfl rfl rfl
  obtain ⟨A4, c4, e5, _, _⟩ := row_form hvb.1
  have hMb := hK.addRow hCb.1 hvb
  rw [e5] at hMb
  clear hkb hvb hK hK2 hne hown hq hCR
  simp only [slAct, slVals, Slot.get, Nat.reduceAdd, e5]
  refine wp_store1 29 _ _ rfl hMb 4 g 0 _ _ rfl (by simp) rfl (.slice A4 (m.recs.length + 1) c4) rfl rfl (by kernel_rfl) ?_
  intro w11 hM11
  clear hMb hCb
  have H11 := hide hM11
  clear hM11
  go_wp2_with fail
  go_ret2
  exact ⟨rfl, lay_step (sp := (m.spans ++ [(⟨r.p, r.e, r.t, m.recs.length, 0⟩ : Spn)])) (unhide HH) (unhide H11) hJ.grow.size hrow8 hnew8⟩

end Go.Proofs.Ytechglhkcjgodaa
