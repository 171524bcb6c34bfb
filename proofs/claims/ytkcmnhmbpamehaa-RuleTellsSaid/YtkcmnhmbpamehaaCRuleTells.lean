/- RuleTells: the row's step over the walk: whatever the input, the law returns true and writes nothing that was there. -/
import Derived.Test.YtkcmnhmbpamehaaRows
import Derived.Test.YtkcmnhmbpamehaaRuT
import Derived.Test.YtkcmnhmbpamehaaReadL
import Derived.Test.YtkcmnhmbpamehaaRead
import Derived.WalkKit
import Derived.ProofKit
import Derived.SizedLaws
import Derived.OpenShut
import Derived.ShutString
import Derived.ChangeOld
import Derived.Below
namespace Go.Proofs.Ytkcmnhmbpamehaa.ruleTells
open Go.ChangeShapes Go.WideShapes Go.ChangeAt Go.ChangeMaps Go.RowKit
set_option linter.unusedVariables false
theorem own : ownKnob Try.prog.godebug = none := by kernel_rfl
theorem laidOut : laidOutB Try.prog = true := by kernel_rfl

set_option maxRecDepth 100000 in
theorem walk (v0 : Value) (v1 : Value) (v2 : Value) (v3 : Value) (v4 : Value) (v5 : Value) (w : World) (r0 : RdV Try.prog w 3 v0) (r1 : RdV Try.prog w 3 v1) (r2 : RdV Try.prog w 22 v2) (r3 : RdV Try.prog w 29 v3) (r4 : RdV Try.prog w 40 v4) (r5 : RdV Try.prog w 40 v5) :
    Calls Try.prog 7 #[v0, v1, v2, v3, v4, v5] w fun e w' => e = .returned (.bool true) ∧ Below w.heap.size w w' := by
  obtain ⟨s, rfl, _, _⟩ := r0.i64 Try.underlying3
  obtain ⟨v, rfl, _, _⟩ := r1.i64 Try.underlying3
  obtain ⟨A2, n2, c2, l2, rfl, hc2, _, _, hb2⟩ := r2.bytes Try.underlying22 Try.underlying5 (by kernel_rfl) (by kernel_rfl)
  obtain ⟨A3, k3, c3, lv, rfl, hc3, _, hl3, hok3, hr3⟩ := r3.votes
  obtain ⟨z4, A4, n4, c4, x4, B4, k4, d4, l4, rfl, hn4, hb4, hk4, hl4, hok4, hr4⟩ := r4.lock
  obtain ⟨z5, A5, n5, c5, x5, B5, k5, d5, l5, rfl, hn5, hb5, hk5, hl5, hok5, hr5⟩ := r5.lock
  obtain rfl := hb4.len
  obtain rfl := hb5.len
  subst hl4 hl5
  exact (RuleTells_any w s v z4 z5 n2 c2 k3 c3 c4 d4 c5 d5 A2 A3 A4 B4 A5 B5 l2 x4 x5 lv l4 l5 hb2 hc2 hr3 hl3 hc3 hok3 hb4 hr4 hn4 hk4 hok4 hb5 hr5 hn5 hk5 hok5).mono fun e w' ⟨he, hg⟩ => ⟨he, hg.below⟩

set_option maxRecDepth 100000 in
theorem lifted (os : Os) (started : os.Started) (H : Type) (enc : TypeId × Value → H) :
    ReturnsInHanded {} Try.checked os 7 .any (Rows.ruleTellsSpec.pre6 enc Try.prog Try.f7 Rows.ruleTellsRow.domain false) (Rows.ruleTellsSpec.post enc Try.prog Try.f7 false true false false) := by
  refine returnsInHanded_of_change_sized (C := Try.checked) own started (by kernel_rfl) Try.func7
    (ChangeSpec.witness6 (enc := enc) (C := Try.checked) false ⟨#[], #[.int .i64 0, .int .i64 0, .slice none 0 0, .slice none 0 0, .agg #[.int .i64 0, .slice none 0 0, .slice none 0 0], .agg #[.int .i64 0, .slice none 0 0, .slice none 0 0]], []⟩ 8 (by kernel_rfl) (by kernel_rfl) (by kernel_rfl) (by kernel_rfl)) ?_
  intro W base args ds gs before hval0 hW hcnd hsz0 _
  have hval : ∀ (j : Nat) t v, Try.f7.params[j]? = some t → args[j]? = some v → Value.okWide Try.prog W .any base t v := hval0
  have hsz : (DataW.weightsEach Try.prog (Try.f7.params.toList ++ Rows.ruleTellsSpec.plain.varTypes Try.prog) (ds ++ gs)).all (· ≤ reachBytes) = true := hsz0
  have hW' := hW
  obtain ⟨p, q, hA0, hV, rfl, hfz, hnd⟩ := hW
  have hA : DataW.TrodAll enc Try.prog W 0 (fun _ => true) true Try.f7.params.toList args.toList ds p := hA0
  rw [Try.params7] at hA hval hsz
  obtain ⟨v0, vs0, d0, ds0, p0, q0, hargs, rfl, rfl, h0, u0⟩ := trodAll_cons hA
  obtain ⟨v1, vs1, d1, ds1, p1, q1, rfl, rfl, rfl, h1, u1⟩ := trodAll_cons u0
  obtain ⟨v2, vs2, d2, ds2, p2, q2, rfl, rfl, rfl, h2, u2⟩ := trodAll_cons u1
  obtain ⟨v3, vs3, d3, ds3, p3, q3, rfl, rfl, rfl, h3, u3⟩ := trodAll_cons u2
  obtain ⟨v4, vs4, d4, ds4, p4, q4, rfl, rfl, rfl, h4, u4⟩ := trodAll_cons u3
  obtain ⟨v5, vs5, d5, ds5, p5, q5, rfl, rfl, rfl, h5, u5⟩ := trodAll_cons u4
  obtain ⟨rfl, rfl, rfl⟩ := trodAll_nil u5
  obtain rfl : args = #[v0, v1, v2, v3, v4, v5] := by cases args; simp_all
  obtain ⟨rfl, rfl⟩ := trodVars_none hV
  have lt0 : ∀ x ∈ p0, x.block < W.heap.size := by obtain ⟨m, hm⟩ := h0; exact DataW.trod_lt m _ _ _ hm
  have r0 : RdV Try.prog W 3 v0 := rdv_mk (hval 0 3 v0 rfl rfl) h0 hsz 0 rfl rfl
  have lt1 : ∀ x ∈ p1, x.block < W.heap.size := by obtain ⟨m, hm⟩ := h1; exact DataW.trod_lt m _ _ _ hm
  have r1 : RdV Try.prog W 3 v1 := rdv_mk (hval 1 3 v1 rfl rfl) h1 hsz 1 rfl rfl
  have lt2 : ∀ x ∈ p2, x.block < W.heap.size := by obtain ⟨m, hm⟩ := h2; exact DataW.trod_lt m _ _ _ hm
  have r2 : RdV Try.prog W 22 v2 := rdv_mk (hval 2 22 v2 rfl rfl) h2 hsz 2 rfl rfl
  have lt3 : ∀ x ∈ p3, x.block < W.heap.size := by obtain ⟨m, hm⟩ := h3; exact DataW.trod_lt m _ _ _ hm
  have r3 : RdV Try.prog W 29 v3 := rdv_mk (hval 3 29 v3 rfl rfl) h3 hsz 3 rfl rfl
  have lt4 : ∀ x ∈ p4, x.block < W.heap.size := by obtain ⟨m, hm⟩ := h4; exact DataW.trod_lt m _ _ _ hm
  have r4 : RdV Try.prog W 40 v4 := rdv_mk (hval 4 40 v4 rfl rfl) h4 hsz 4 rfl rfl
  have lt5 : ∀ x ∈ p5, x.block < W.heap.size := by obtain ⟨m, hm⟩ := h5; exact DataW.trod_lt m _ _ _ hm
  have r5 : RdV Try.prog W 40 v5 := rdv_mk (hval 5 40 v5 rfl rfl) h5 hsz 5 rfl rfl
  clear hA0 hval0
  refine (walk v0 v1 v2 v3 v4 v5 W r0 r1 r2 r3 r4 r5).mono fun e W' ⟨he, bel⟩ => ?_
  subst he
  exact ⟨_, rfl, _, _, _, [], _, [], hW', trodAll_mk1 (shut_bool Try.underlying4 _), (trodAll_cons_mk (Below.trod laidOut (by kernel_rfl) (of_decide_eq_true (by kernel_rfl)) h0 bel lt0) (trodAll_cons_mk (Below.trod laidOut (by kernel_rfl) (of_decide_eq_true (by kernel_rfl)) h1 bel lt1) (trodAll_cons_mk (Below.trod laidOut (by kernel_rfl) (of_decide_eq_true (by kernel_rfl)) h2 bel lt2) (trodAll_cons_mk (Below.trod laidOut (by kernel_rfl) (of_decide_eq_true (by kernel_rfl)) h3 bel lt3) (trodAll_cons_mk (Below.trod laidOut (by kernel_rfl) (of_decide_eq_true (by kernel_rfl)) h4 bel lt4) (trodAll_cons_mk (Below.trod laidOut (by kernel_rfl) (of_decide_eq_true (by kernel_rfl)) h5 bel lt5) trodAll_mk0)))))), rfl, bel.frame _, fun h => by cases h⟩

theorem over : Rows.ruleTellsRow.holds Try.pinned (OpenSpec.ofChange Rows.ruleTellsSpec) :=
  OpenClaim.holds_of_wide 7 Try.f7 rfl rfl rfl rfl rfl rfl rfl ⟨rfl, rfl, rfl, rfl, rfl⟩ rfl rfl rfl rfl rfl (by kernel_rfl) Try.func7 (by kernel_rfl)
    (of_decide_eq_true (by kernel_rfl)) (by unfold Func.isWrapper; first | (rw [if_pos (by decide +kernel)]; kernel_rfl) | (rw [if_neg (by decide +kernel)]; exact ⟨rfl, rfl⟩))
    (fun os started H enc _ => lifted os started H enc)

theorem proved : Rows.RuleTellsSaid := over
#print axioms proved
end Go.Proofs.Ytkcmnhmbpamehaa.ruleTells
