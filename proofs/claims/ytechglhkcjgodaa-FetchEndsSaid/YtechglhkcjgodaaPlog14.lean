/- plog: Append of a record that may be. -/
import Derived.Test.YtechglhkcjgodaaPlog13
namespace Go.Proofs.Ytechglhkcjgodaa
open Go.RowKit Go.MapKept
set_option linter.unusedSimpArgs false

theorem isRec_p {r : Rec} (h : PL.isRec r = true) : 0 ≤ r.p ∧ r.p < 8 := by
  simp only [PL.isRec, PL.isProd, Bool.and_eq_true, decide_eq_true_eq] at h
  omega
theorem epf_some (m : PL) (p : Int) (hp : 0 ≤ p) : (epf m p).isSome = decide (0 ≤ m.ep p) := by
  unfold epf
  by_cases h : 0 ≤ m.ep p <;> simp [h, hp]
set_option maxRecDepth 100000 in
set_option maxHeartbeats 8000000 in
theorem Append_out (w : World) (g gm : Nat) (A B : Option Addr) (ca cb : Nat) (m : PL) (vs : List Value) (S V : Nat → Prop) (h : LogHas w g gm A B ca cb m vs S V) (r : Rec) (n c : Nat) (D : Option Addr) (hl : r.v.length = n) (hr : PL.isRec r = true) (hne : ¬ (0 ≤ m.ep r.p ∧ r.e = m.ep r.p)) :
    Calls Try.prog 28 #[.pointer (some ⟨g, 0, none⟩), .agg #[.int .i64 r.p, .int .i64 r.e, .int .i64 r.t, .int .i64 r.s, .slice D n c]] w fun x w' => x = .returned (.tuple #[.int .i64 (m.append r).2.1, .int .i64 (m.append r).2.2]) ∧ Step w g (m.append r).1 S V w' := by
  have HI : ∀ w1, Calls Try.prog 45 #[.agg #[.int .i64 r.p, .int .i64 r.e, .int .i64 r.t, .int .i64 r.s, .slice D n c]] w1 fun x w' => x = .returned (.bool true) ∧ Grow w1 noOwn w' := fun w1 => by
    have := isRecord_any r.p r.e r.t r.s n c D r.v hl w1
    rwa [hr] at this
  have hp := (isRec_p hr).1
  obtain ⟨ev, hev⟩ : ∃ ev, ev = m.epv r.p := ⟨_, rfl⟩
  obtain ⟨ok, hok⟩ : ∃ ok, ok = decide (0 ≤ m.ep r.p) := ⟨_, rfl⟩
  obtain ⟨er, her⟩ : ∃ er : Int, er = (if m.ep r.p < 0 then 4 else if r.e < m.ep r.p then 5 else 6) := ⟨_, rfl⟩
  have hap : m.append r = (m, 0, er) := by
    unfold PL.append
    rw [if_neg (by rw [hr]; simp), her]
    by_cases a1 : m.ep r.p < 0
    · rw [if_pos a1, if_pos a1]
    · rw [if_neg a1, if_neg a1]
      by_cases a2 : r.e < m.ep r.p
      · rw [if_pos a2, if_pos a2]
      · rw [if_neg a2, if_neg a2, if_pos (by omega)]
  have hcase : (ok = false ∧ er = 4) ∨ (ok = true ∧ r.e < ev ∧ er = 5) ∨ (ok = true ∧ r.e > ev ∧ er = 6) := by
    by_cases a1 : m.ep r.p < 0
    · exact .inl ⟨by rw [hok]; simp; omega, by rw [her, if_pos a1]⟩
    · have hv : ev = m.ep r.p := by rw [hev]; exact if_pos (by omega)
      by_cases a2 : r.e < m.ep r.p
      · exact .inr (.inl ⟨by rw [hok]; simp; omega, by omega, by rw [her, if_neg a1, if_pos a2]⟩)
      · exact .inr (.inr ⟨by rw [hok]; simp; omega, by omega, by rw [her, if_neg a1, if_neg a2]⟩)
  have hlk : (.tuple #[(epf m r.p).getD (.int .i64 0), .bool (epf m r.p).isSome] : Value) = .tuple #[.int .i64 ev, .bool ok] := by rw [epf_get m r.p hp, epf_some m r.p hp, ← hev, ← hok]
  rw [hap]
  have hsame : Hid (∀ w', Grow w noOwn w' → Step w g m S V w') := hide (fun w' hg => Step.same ⟨gm, A, B, ca, cb, vs, h⟩ hg)
  have HK := hide hlk
  clear hl hr hne hev hok her hap hlk hp
  have hR := h.read
  have hM := Mem.nil w noOwn
  have tok : True := trivial
  go_enter Try.func28, Try.ntmps28
  go_wp2_with (first
    | (have _t := tok; refine wpList_box_mem hM rfl 42 _ rfl (.agg #[.int .i64 r.p, .int .i64 r.e, .int .i64 r.t, .int .i64 r.s, .slice D n c]) rfl (recVals r (.slice D n c)).toArray rfl ?_; clear tok hM; intro g1 w1 hM)
    | (refine BigFrame.wpList_want rfl fun _ hK => wp_load_blk 42 _ rfl hM 0 g1 _ _ rfl rfl _ Try.underlying42 rfl (by kernel_rfl) (hK _ _ ?_))
    | (go_at_call 45; refine (HI w1).mono ?_; rintro e1 w2 ⟨rfl, hg⟩; replace hM := hM.call hg))
  have hq : Quiet (fun w' => Mem w noOwn w' [.blk g1 42 (recVals r (.slice D n c)).toArray]) (fun w1 w2 => Grow w1 noOwn w2) (fun _ _ => True) := ⟨fun w _ => Grow.refl w _, fun _ _ => trivial⟩
  refine wp_region_ghost (C := fun w' => Mem w noOwn w' [.blk g1 42 (recVals r (.slice D n c)).toArray]) (D := fun _ => True) (R := fun w1 w2 => Grow w1 noOwn w2) (R' := fun _ _ => True) [] [] [] (by kernel_rfl) (by kernel_rfl) (by kernel_rfl) (by kernel_rfl) hM.drew trivial (fun _ _ _ _ _ h => h) hq.1 hq.2 ?_
  simp only [initS, Act.put, List.setIfInBounds_toArray, List.set_cons_succ, List.set_cons_zero, List.map_cons, List.map_nil]
  repeat (first
    | (refine gw_move hq rfl _ (.inl rfl) _ rfl ?_; simp only [setD, List.set_cons_succ, List.set_cons_zero])
    | (refine gw_load1 hq rfl 80 _ rfl ⟨g, 2, none⟩ rfl _ Try.underlying80 rfl (.map (some gm)) (fun w' hC => (hR.grow hC.grow).blk.cell 2) ?_; simp only [setD, List.set_cons_succ, List.set_cons_zero])
    | (refine gw_load1 hq rfl 3 _ rfl ⟨g1, 0, none⟩ rfl _ Try.underlying3 rfl (.int .i64 r.p) (fun w' hC => hC.cell 0 rfl 0) ?_; simp only [setD, List.set_cons_succ, List.set_cons_zero])
    | (refine gw_lookup hq rfl 80 _ _ true rfl gm (epf m) (fun w' hC => (hR.grow hC.grow).map) 3 3 Try.underlying80 Try.underlying3 (.int .i64 0) (by kernel_rfl) rfl r.p rfl (.tuple #[.int .i64 ev, .bool ok]) (unhide HK) ?_; simp only [setD, List.set_cons_succ, List.set_cons_zero])
    | (refine gw_pure_ex hq rfl (fun K hK => ?_); go_simp; refine hK _ ?_; clear hK K; simp only [setD, List.set_cons_succ, List.set_cons_zero]))
  intro γ w4 hC4 hk4
  simp only [slAct, slVals, Slot.get]
  have d1 : w4.cell? ⟨g1, 1, none⟩ = some (.int .i64 r.e) := hC4.cell 0 rfl 1
  clear hM hk4
  rcases hcase with ⟨rfl, rfl⟩ | ⟨rfl, hlt, rfl⟩ | ⟨rfl, hlt, rfl⟩
  all_goals
    go_wp2
    go_ret2
    exact ⟨rfl, unhide hsame _ hC4.grow⟩
end Go.Proofs.Ytechglhkcjgodaa
