/- fault's laws: what a drawn call of Make leaves. -/
import Derived.Test.YtgdfdombcngpnaaFltO
import Derived.Test.YtgdfdombcngpnaaFJ4
import Derived.Test.YtgdfdombcngpnaaTail2
namespace Go.Proofs.Ytgdfdombcngpnaa
open Go.RowKit Go.MapKept
set_option linter.unusedSimpArgs false
set_option linter.unusedVariables false
/-- A ring; a message with the error; a message. -/
def RingV (T : TypeId) (ks : List (List (BitVec 8))) (B : Nat) (v : Value) (w : World) : Prop := ∃ g A c, v = .pointer (some ⟨g, 0, none⟩) ∧ RingIs w g A c T ks
theorem RingV.grow {T : TypeId} {ks : List (List (BitVec 8))} {B : Nat} (v : Value) (w w' : World) (hg : Grow w noOwn w') (h : RingV T ks B v w) : RingV T ks B v w' := by
  obtain ⟨g, A, c, e, hr⟩ := h
  exact ⟨g, A, c, e, hr.grow hg⟩
def MsgRows (x : Mo) (va : Option Addr) (vc : Nat) (wa : Option Addr) (wc : Nat) : List Item := [.row (.slice va x.val.length vc) 5 1 x.val.length (x.val.map V8), .row (.slice wa x.lv.length wc) 47 68 x.lv.length (vCells x.lv)]
def FMsg (x : Mo) (B : Nat) (v : Value) (w : World) : Prop := ∃ va vc wa wc W0, v = .tuple #[.agg (msc (moMs x va vc wa wc)).toArray, .int .i64 x.err] ∧ B ≤ W0.heap.size ∧ Mem W0 noOwn w (MsgRows x va vc wa wc)
def FAggM (x : Mo) (B : Nat) (v : Value) (w : World) : Prop := ∃ va vc wa wc W0, v = .agg (msc (moMs x va vc wa wc)).toArray ∧ B ≤ W0.heap.size ∧ Mem W0 noOwn w (MsgRows x va vc wa wc)
theorem FMsg.grow {x : Mo} {B : Nat} (v : Value) (w w' : World) (hg : Grow w noOwn w') (h : FMsg x B v w) : FMsg x B v w' := by
  obtain ⟨va, vc, wa, wc, W0, e, hB, hM⟩ := h
  exact ⟨va, vc, wa, wc, W0, e, hB, hM.call hg⟩
theorem FAggM.grow {x : Mo} {B : Nat} (v : Value) (w w' : World) (hg : Grow w noOwn w') (h : FAggM x B v w) : FAggM x B v w' := by
  obtain ⟨va, vc, wa, wc, W0, e, hB, hM⟩ := h
  exact ⟨va, vc, wa, wc, W0, e, hB, hM.call hg⟩
theorem FMsg.agg {x : Mo} {B : Nat} (v : Value) (w : World) (h : FMsg x B v w) : ∃ ts u, v = .tuple ts ∧ ts[0]? = some u ∧ FAggM x B u w := by
  obtain ⟨va, vc, wa, wc, W0, e, hB, hM⟩ := h
  exact ⟨_, _, e, rfl, va, vc, wa, wc, W0, rfl, hB, hM⟩
theorem FMsg.err {x : Mo} {B : Nat} (v : Value) (w : World) (h : FMsg x B v w) : ∃ ts, v = .tuple ts ∧ ts[1]? = some (.int .i64 x.err) := by
  obtain ⟨va, vc, wa, wc, W0, e, hB, hM⟩ := h
  exact ⟨_, e, rfl⟩
theorem Mem.consNew {w0 w : World} {own : Nat → Prop} {L : List Item} {x : Item} (h : Mem w0 own w L) (hx : x.at_ w) (hn : ∀ y ∈ L, ∀ g, x.foot g → ¬ y.foot g) (hm : ∀ g, x.foot g → w0.heap.size ≤ g) : Mem w0 own w (x :: L) := by
  refine ⟨h.grow, fun z hz => ?_, List.pairwise_cons.2 ⟨hn, h.apart⟩, fun z hz g e => ?_⟩
  · rcases List.mem_cons.1 hz with rfl | hz
    · exact hx
    · exact h.has z hz
  · rcases List.mem_cons.1 hz with rfl | hz
    · exact .inr (hm g e)
    · exact h.mine z hz g e
theorem cm_msg {w0 w W0 : World} {own : Nat → Prop} {L : List Item} {B g n1 n2 s1 s2 : Nat} {t e1 e2 : TypeId} {v1 v2 : Value} {x1 x2 : List Value} {cs : Array Value} (hC : CM w0 own L B w) (hM : Mem W0 noOwn w [.row v1 e1 s1 n1 x1, .row v2 e2 s2 n2 x2]) (hB : B ≤ W0.heap.size) (hb : Fresh B (.blk g t cs) w) (h1 : e1 ≠ t) (h2 : e2 ≠ t) :
    Mem w0 own w (.row v1 e1 s1 n1 x1 :: .row v2 e2 s2 n2 x2 :: .blk g t cs :: L) := by
  have f1 := hM.fresh (w := W0) (B := W0.heap.size) (Nat.le_refl _) 0 rfl
  have f2 := hM.fresh (w := W0) (B := W0.heap.size) (Nat.le_refl _) 1 rfl
  have hb1 := cm_fresh hC hb
  have hw0 := hC.2.2.1
  have h3 := hb1.consNew f2.1 (fun y hy g' e3 e4 => by
    rcases List.mem_cons.1 hy with rfl | hy
    · exact row_apart f2.1 hb.1 h2 g' e3 e4
    · have := f2.2 g' e3
      have := hC.2.2.2 y hy g' e4
      omega) (fun g' e3 => by have := f2.2 g' e3; omega)
  refine h3.consNew f1.1 (fun y hy g' e3 e4 => ?_) (fun g' e3 => by have := f1.2 g' e3; omega)
  rcases List.mem_cons.1 hy with rfl | hy
  · exact hM.ne 0 1 rfl rfl (by decide) e3 e4
  · rcases List.mem_cons.1 hy with rfl | hy
    · exact row_apart f1.1 hb.1 h1 g' e3 e4
    · have := f1.2 g' e3
      have := hC.2.2.2 y hy g' e4
      omega
theorem wp_assignL {P : Program} {T0 : List Value} {d0 : List Deferred} {o : Oper} {w : World} {K : Act → World → Prop} {Q : Exit → Act → World → Prop} {x : Operand} (ho : o.op = .move x ∨ o.op = .assign x) {v : Value} (hx : ev T0 x = some v) (h : K ⟨(putT T0 o.dst v).toArray, d0⟩ w) : o.wp P ⟨T0.toArray, d0⟩ w K Q := by
  have hr : (execOp (⟨T0.toArray, d0⟩ : Act).eval o).run P w = .ok (.value v) w := by
    unfold execOp
    rcases ho with ho | ho <;> simp only [ho, ev_of hx, Sem.run_pure]
  unfold Oper.wp
  rw [hr]
  show K (Act.put ⟨T0.toArray, d0⟩ o.dst v) w
  rw [put_of]
  exact h
end Go.Proofs.Ytgdfdombcngpnaa
