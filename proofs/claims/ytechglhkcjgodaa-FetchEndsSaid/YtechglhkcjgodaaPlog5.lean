/- plog: where a transaction and a record stand; why a record does not fit. -/
import Derived.Test.YtechglhkcjgodaaPlog4
namespace Go.Proofs.Ytechglhkcjgodaa
open Go.RowKit
set_option linter.unusedSimpArgs false

theorem enters {f : FuncId} {fn : Func} (hf : Try.prog.funcs[f]? = some fn) (hn : (fn.name == "runtime.NumGoroutine") = false) (hb : fn.body.isNone = false) : ∀ args w, (callFunc f args).run Try.prog w = .ok (.enter f args) w := fun args w => run_callFunc hf hn hb args w
theorem idx_nonneg {α : Type} (l : List α) (p : α → Bool) : decide (0 ≤ idx l p) = l.any p := by
  unfold idx
  cases h : l.findIdx? p with
  | none =>
    rw [List.findIdx?_eq_none_iff] at h
    simp
    exact fun x hx => by simpa using h x hx
  | some i =>
    rw [List.findIdx?_eq_some_iff_getElem] at h
    obtain ⟨hi, hp, _⟩ := h
    simp
    exact ⟨l[i], List.getElem_mem hi, hp⟩
theorem ContainsS_any (w : World) (n c F : Nat) (A : Option Addr) (caps : Array Value) (l : List Spn) (p : Spn → Bool) (hl : l.length = n) (hn : n ≤ 1000000000) (hb : Reads w w.heap.size 5 A n (spnCells l)) (hF : ∀ args w, (callFunc F args).run Try.prog w = .ok (.enter F args) w)
    (hp : ∀ w' s, Grow w noOwn w' → s ∈ l → Calls Try.prog F (#[.agg (spnVals s).toArray] ++ caps) w' fun e w'' => e = .returned (.bool (p s)) ∧ Grow w' noOwn w'') :
    Calls Try.prog 60 #[.slice A n c, .func (.func F) #[] caps] w fun e w' => e = .returned (.bool (l.any p)) ∧ Grow w noOwn w' := by
  have H := hide (idx_nonneg l p)
  go_enter Try.func60, Try.ntmps60
  go_wp2_with (first
    | (go_at_call 61; refine (IndexS_any w n c F A caps l p hl hn hb hF hp).mono ?_; rintro e w1 ⟨rfl, hg⟩))
  go_ret
  exact ⟨congrArg (fun b => Ending.returned (.bool b)) (unhide H), hg⟩

theorem span_any (w : World) (g gm : Nat) (A B : Option Addr) (ca cb : Nat) (m : PL) (vs : List Value) (h : LogR w g gm A B ca cb m vs) (hs : m.spans.length ≤ 1000000000) (p e t : Int) :
    Calls Try.prog 49 #[.pointer (some ⟨g, 0, none⟩), .int .i64 p, .int .i64 e, .int .i64 t] w fun x w' => x = .returned (.int .i64 (m.spanAt p e t)) ∧ Grow w noOwn w' := by
  have hM := Mem.nil w noOwn
  have t1 : True := trivial
  have t2 : True := trivial
  have t3 : True := trivial
  go_enter Try.func49, Try.ntmps49
  go_wp2_with (first
    | (have _t := t1; refine wpList_box_mem hM rfl 3 _ rfl (.int .i64 p) rfl _ rfl ?_; clear t1 hM; intro g1 w1 hM)
    | (have _t := t2; refine wpList_box_mem hM rfl 3 _ rfl (.int .i64 e) rfl _ rfl ?_; clear t2 hM; intro g2 w2 hM)
    | (have _t := t3; refine wpList_box_mem hM rfl 3 _ rfl (.int .i64 t) rfl _ rfl ?_; clear t3 hM; intro g3 w3 hM; have h3 := h.grow hM.grow; have c1 := h3.blk.cell 1)
    | (go_at_call 61; refine (IndexS_any w3 _ cb _ B _ m.spans (fun s => decide (s.p = p) && decide (s.e = e) && decide (s.t = t)) rfl hs h3.spans (enters Try.func62 rfl rfl) (fun w' s hg _ => span1_any w' s p e t g1 g2 g3 (((hM.call hg).cell 2 rfl 0).trans rfl) (((hM.call hg).cell 1 rfl 0).trans rfl) (((hM.call hg).cell 0 rfl 0).trans rfl) ((hM.call hg).lt 2 rfl rfl) ((hM.call hg).lt 1 rfl rfl) ((hM.call hg).lt 0 rfl rfl))).mono ?_; rintro e w4 ⟨rfl, hg⟩))
  go_ret
  exact ⟨rfl, hM.grow.then_ hg⟩
end Go.Proofs.Ytechglhkcjgodaa
