/- Bytes as strings. -/
import Derived.Test.YtnmnknjgibkkaaaMem
import Derived.Laws.BytesString
namespace Go.Proofs.Ytnmnknjgibkkaaa
open Go.RowKit

/-- Bytes as a string. -/
def strOf (l : List (BitVec 8)) : ByteArray := ⟨(l.map UInt8.ofBitVec).toArray⟩
theorem foldl_push (l : List (BitVec 8)) : ∀ s : ByteArray, (l.map (fun x => (x.toNat : Int))).foldl (fun r n => r.push (UInt8.ofNat n.toNat)) s = ⟨s.data ++ (l.map UInt8.ofBitVec).toArray⟩ := by
  induction l with
  | nil => intro s; simp
  | cons x l ih =>
    intro s
    simp only [List.map_cons, List.foldl_cons]
    rw [ih]
    have h : UInt8.ofNat ((x.toNat : Int).toNat) = UInt8.ofBitVec x := by
      apply UInt8.toBitVec_inj.1
      simp
    rw [h]
    simp [ByteArray.push]
section
variable {P : Program} {ops : Array Oper} {rest : List Oper} {o : Oper} {a : Act} {w : World} {Q : Exit → Act → World → Prop}
theorem run_bytes_str {B n c : Nat} {A : Option Addr} {l : List (BitVec 8)} (h : Bytes w B A n l) : (Conv.bytesToString (.slice A n c)).run P w = .ok (.string (strOf l)) w := by
  have hl := h.len
  cases A with
  | none =>
    have hn : n = 0 := by
      rcases Nat.eq_zero_or_pos n with h0 | h0
      · exact h0
      · obtain ⟨ad, e, _⟩ := h.2 h0
        cases e
    subst hn
    have : l = [] := List.eq_nil_of_length_eq_zero hl
    subst this
    rfl
  | some ad =>
    have hc : ∀ j u, (l.map V8)[j]? = some u → w.cell? (ad.add j) = some u := by
      intro j u hu
      have hj : j < l.length := by have := (List.getElem?_eq_some_iff.1 hu).1; simpa using this
      obtain ⟨ad', e, _, hc⟩ := h.2 (by omega)
      injection e with e
      subst e
      exact hc j u hu
    have hload := run_loadCells_list (P := P) w ad (l.map V8) hc
    rw [List.length_map, hl] at hload
    have e1 : l.map V8 = (l.map (fun x => (x.toNat : Int))).map (Value.int .u8) := by rw [List.map_map]; rfl
    rw [e1] at hload
    rw [run_bytesToString w ad n c _ hload, foldl_push]
    simp [strOf]
theorem wpList_conv_str (hgd : Region.wanted o (yielded ops a.tmps) = true) (src dst e : TypeId) (x : Operand) (ho : o.op = .convert src dst x) (hs : P.underlying src = some (.slice e)) (he : P.underlying e = some (.int .u8)) (hd : P.underlying dst = some .string)
    (B n c : Nat) (A : Option Addr) (l : List (BitVec 8)) (hx : a.eval x = .slice A n c) (hb : Bytes w B A n l) (h : wpList P ops Q rest (a.put o.dst (.string (strOf l))) w) : wpList P ops Q (o :: rest) a w :=
  BigFrame.wpList_want hgd fun K hK => by
    unfold Oper.wp execOp
    simp only [ho, hx, Sem.run_bind, Sem.run_pure, Result.andThen_ok, run_convert_bytes_string w src dst e A n c hs he hd, run_bytes_str hb]
    exact hK _ _ h
end
theorem strOf_beq (a b : List (BitVec 8)) : ((strOf a).toList == (strOf b).toList) = (a == b) := by
  rw [Bool.eq_iff_iff, beq_iff_eq, beq_iff_eq]
  constructor
  · intro h
    have h1 : (strOf a).data.toList = (strOf b).data.toList := by
      have := h
      rw [Go.ByteArray.toList_eq, Go.ByteArray.toList_eq] at this
      exact this
    simp only [strOf] at h1
    exact (List.map_inj_right (fun x y hxy => by injection hxy)).1 h1
  · intro h; rw [h]
end Go.Proofs.Ytnmnknjgibkkaaa
