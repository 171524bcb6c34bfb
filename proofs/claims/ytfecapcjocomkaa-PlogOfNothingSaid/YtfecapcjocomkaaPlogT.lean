/- plog's laws: scripts as they come in; long; act. -/
import Derived.Test.YtfecapcjocomkaaPlogS
import Derived.Test.YtfecapcjocomkaaReadX
namespace Go.Proofs.Ytfecapcjocomkaa
open Go.RowKit Go.MapKept
set_option linter.unusedSimpArgs false
set_option linter.unusedVariables false
attribute [local irreducible] wpList Code.wp GW Calls

/-- One act of a script. -/
structure Doing where
  k : Int
  r : Rec
  c : Bool
def doVals (a : Doing) (v : Value) : List Value := [.int .i64 a.k, .int .i64 a.r.p, .int .i64 a.r.e, .int .i64 a.r.t, .int .i64 a.r.s, v, .bool a.c]
instance (a : Doing) (v : Value) : SzL (doVals a v) 7 := ⟨rfl⟩
/-- A script, as it is read. -/
structure DoR (w : World) (A : Option Addr) (n : Nat) (l : List Doing) (vs : List Value) : Prop where
  len : l.length = n
  vl : vs.length = l.length
  at_ : ∀ i (h : i < l.length), ∃ b off, A = some ⟨b, off, none⟩ ∧ b < w.heap.size ∧ w.rangeAt b (off + i * 7) (doVals l[i] (vs[i]'(by rw [vl]; exact h)))
  vals : ∀ i (h : i < l.length), ∃ D k c, vs[i]'(by rw [vl]; exact h) = .slice D k c ∧ k ≤ c ∧ k ≤ 140737488351232 ∧ Bytes w w.heap.size D k l[i].r.v
theorem rdw_doing {w : World} {B n : Nat} {cs : List Value} (h : Rdw Try.prog w B n 37 cs) (hB : B ≤ 140737488351232) : ∃ (a : Doing) (D : Option Addr) (k c : Nat), cs = doVals a (.slice D k c) ∧ k ≤ c ∧ k ≤ 140737488351232 ∧ Bytes w w.heap.size D k a.r.v := by
  obtain ⟨hl, m, hf⟩ := rdw_struct h Try.underlying37
  have hc : Try.prog.cellsOf 37 = 7 := by kernel_rfl
  have c1 : Try.prog.cellsOf 3 = 1 := by kernel_rfl
  have c2 : Try.prog.cellsOf 4 = 1 := by kernel_rfl
  have c3 : Try.prog.cellsOf 35 = 5 := by kernel_rfl
  have c4 : Try.prog.cellsOf 33 = 1 := by kernel_rfl
  rw [hc] at hl
  match cs, hl with
  | [x0, x1, x2, x3, x4, x5, x6], _ =>
    have f0 : Rdw Try.prog w B m 3 (([x0, x1, x2, x3, x4, x5, x6].drop 0).take (Try.prog.cellsOf 3)) := hf 0 _ rfl
    have f1 : Rdw Try.prog w B m 35 (([x0, x1, x2, x3, x4, x5, x6].drop 1).take (Try.prog.cellsOf 35)) := hf 1 _ rfl
    have f2 : Rdw Try.prog w B m 4 (([x0, x1, x2, x3, x4, x5, x6].drop 6).take (Try.prog.cellsOf 4)) := hf 2 _ rfl
    simp only [c1, c2, c3, List.drop_zero, List.drop_succ_cons, List.take_succ_cons, List.take_zero] at f0 f1 f2
    obtain ⟨z0, e0, _⟩ := rdw_i64 f0 Try.underlying3
    obtain ⟨b, e6⟩ := rdw_bool f2 Try.underlying4
    obtain ⟨_, m2, hg⟩ := rdw_struct f1 Try.underlying35
    have g0 : Rdw Try.prog w B m2 3 (([x1, x2, x3, x4, x5].drop 0).take (Try.prog.cellsOf 3)) := hg 0 _ rfl
    have g1 : Rdw Try.prog w B m2 3 (([x1, x2, x3, x4, x5].drop 1).take (Try.prog.cellsOf 3)) := hg 1 _ rfl
    have g2 : Rdw Try.prog w B m2 3 (([x1, x2, x3, x4, x5].drop 2).take (Try.prog.cellsOf 3)) := hg 2 _ rfl
    have g3 : Rdw Try.prog w B m2 3 (([x1, x2, x3, x4, x5].drop 3).take (Try.prog.cellsOf 3)) := hg 3 _ rfl
    have g4 : Rdw Try.prog w B m2 33 (([x1, x2, x3, x4, x5].drop 4).take (Try.prog.cellsOf 33)) := hg 4 _ rfl
    simp only [c1, c4, List.drop_zero, List.drop_succ_cons, List.take_succ_cons, List.take_zero] at g0 g1 g2 g3 g4
    obtain ⟨z1, e1, _⟩ := rdw_i64 g0 Try.underlying3
    obtain ⟨z2, e2, _⟩ := rdw_i64 g1 Try.underlying3
    obtain ⟨z3, e3, _⟩ := rdw_i64 g2 Try.underlying3
    obtain ⟨z4, e4, _⟩ := rdw_i64 g3 Try.underlying3
    obtain ⟨D, k, c, l, e5, h1, _, h2, h3⟩ := rdw_bytes g4 Try.underlying33 Try.underlying5 (by kernel_rfl) (by kernel_rfl)
    simp only [List.cons.injEq, and_true] at e0 e1 e2 e3 e4 e5 e6
    subst e0; subst e1; subst e2; subst e3; subst e4; subst e5; subst e6
    exact ⟨⟨z0, ⟨z1, z2, z3, z4, l⟩, b⟩, D, k, c, rfl, h1, by omega, h3⟩
theorem RdV.doings {w : World} {v : Value} (h : RdV Try.prog w 22 v) : ∃ A n c l vs, v = .slice A n c ∧ n ≤ 2000000000000 ∧ DoR w A n l vs := by
  obtain ⟨A, n, c, rfl, h1, h2, h3, h4, m, h5⟩ := h.slice Try.underlying22
  have hb : Try.prog.bytesOf 37 = 72 := by kernel_rfl
  have hc : Try.prog.cellsOf 37 = 7 := by kernel_rfl
  rw [hb] at h3
  have key : ∀ i, i < n → ∃ p : Doing × Value, (∃ b off, A = some ⟨b, off, none⟩ ∧ b < w.heap.size ∧ w.rangeAt b (off + i * 7) (doVals p.1 p.2)) ∧ ∃ D k c, p.2 = .slice D k c ∧ k ≤ c ∧ k ≤ 140737488351232 ∧ Bytes w w.heap.size D k p.1.r.v := by
    intro i hi
    rcases A with _ | ad
    · have := (h4 rfl).1; omega
    obtain ⟨xs, hx, hr⟩ := h5 ad rfl i hi
    rw [hc] at hx
    obtain ⟨a, D, k, c, rfl, g1, g2, g3⟩ := rdw_doing hr (Nat.le_refl _)
    obtain ⟨b, off, e1, hb, hrg, _⟩ := cells_range hx (by omega)
    have hsp : ad.spot = none := by
      obtain ⟨xs0, hx0, _⟩ := h5 ad rfl 0 (by omega)
      rw [hc] at hx0
      obtain ⟨_, _, e0, _⟩ := cells_range hx0 (by omega)
      have e9 : ad.add (0 * 7) = ad := by simp [Addr.add]
      rw [e9] at e0
      rw [e0]
    obtain ⟨b0, o0, s0⟩ := ad
    simp only at hsp
    subst hsp
    have e2 : (⟨b0, o0, none⟩ : Addr).add (i * 7) = ⟨b0, o0 + i * 7, none⟩ := Addr.add_mid b0 o0 (i * 7)
    rw [e2] at e1
    injection e1 with e3 e4
    subst e3; subst e4
    exact ⟨(a, .slice D k c), ⟨b0, o0, rfl, hb, hrg⟩, D, k, c, rfl, g1, g2, g3⟩
  refine ⟨A, n, c, (List.range n).map (fun i => if hi : i < n then (key i hi).choose.1 else ⟨0, noRec, false⟩), (List.range n).map (fun i => if hi : i < n then (key i hi).choose.2 else undef), rfl, by omega, by simp, by simp, fun i hi => ?_, fun i hi => ?_⟩
  · have hi' : i < n := by simpa using hi
    simp only [List.getElem_map, List.getElem_range, hi', dif_pos]
    exact (key i hi').choose_spec.1
  · have hi' : i < n := by simpa using hi
    simp only [List.getElem_map, List.getElem_range, hi', dif_pos]
    exact (key i hi').choose_spec.2

def SomeB (w : World) (e : Ending) (w' : World) : Prop := ∃ b : Bool, e = .returned (.bool b) ∧ w = w'
set_option maxRecDepth 100000 in
set_option maxHeartbeats 4000000 in
theorem long_any (w : World) (A : Option Addr) (n c : Nat) (l : List Doing) (vs : List Value) (h : DoR w A n l vs) (hn : n ≤ 2000000000000) : Calls Try.prog 13 #[.slice A n c] w (SomeB w) := by
  go_enter Try.func13, Try.ntmps13
  go_wp2
  go_loopw [3, 4] (fun u v wr => ∃ (k : Nat) (z : Int), k ≤ n ∧ 0 ≤ z ∧ z ≤ 6000 ∧ u = .int .i64 z ∧ v = .int .i64 k ∧ w = wr) (fun _ v _ => n - (intOf v).toNat)
  case atStart => exact ⟨0, 0, Nat.zero_le _, by omega, by omega, rfl, rfl, rfl⟩
  case round =>
    obtain ⟨k, z, hk, hz0, hz1, rfl, rfl, rfl⟩ := hrel
    by_cases hlt : k < n
    · have hkl : k < l.length := by rw [h.len]; exact hlt
      obtain ⟨b, off, rfl, hbB, hr⟩ := h.at_ k hkl
      obtain ⟨D, q, c', e1, _, hq, _⟩ := h.vals k hkl
      rw [e1] at hr
      have d5 : w.cell? ⟨b, off + k * 7 + 1 + 4, none⟩ = some (.slice D q c') := hr 5 _ rfl
      have hr2 := hide hr
      clear hr e1
      by_cases h80 : k < 80
      · go_wp2
        · go_ret
          exact ⟨true, rfl, rfl⟩
        · go_roundw
          case rel => exact ⟨k + 1, z + 1 + q, by omega, by omega, by omega, rfl, by go_num, trivial⟩
          case measure => simp [intOf]; omega
      · go_wp2
        go_ret
        exact ⟨false, rfl, rfl⟩
    · go_wp2
      go_ret
      exact ⟨false, rfl, rfl⟩
end Go.Proofs.Ytfecapcjocomkaa
