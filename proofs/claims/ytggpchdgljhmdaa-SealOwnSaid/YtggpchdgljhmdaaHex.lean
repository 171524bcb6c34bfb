/- A digest's digits: digest's own and the reference's. -/
import Derived.Test.YtggpchdgljhmdaaRMac
import Derived.Laws.BytesString
import Derived.Deep.RegionLaw
namespace Go.Proofs.Ytggpchdgljhmdaa
open Go.RowKit

/-- Bytes as a string. -/
def strOf (l : List (BitVec 8)) : ByteArray := ⟨(l.map UInt8.ofBitVec).toArray⟩
theorem foldl_push (l : List (BitVec 8)) : ∀ s : ByteArray, (l.map (fun x => (x.toNat : Int))).foldl (fun r n => r.push (UInt8.ofNat n.toNat)) s = ⟨s.data ++ (l.map UInt8.ofBitVec).toArray⟩ := by
  induction l with
  | nil => intro s; simp
  | cons x l ih =>
    intro s
    simp only [List.map_cons, List.foldl_cons]
    rw [ih]
    have h : UInt8.ofNat ((x.toNat : Int).toNat) = UInt8.ofBitVec x := by
      apply UInt8.toBitVec_inj.1
      simp
    rw [h]
    simp [ByteArray.push]
section
variable {P : Program} {ops : Array Oper} {rest : List Oper} {o : Oper} {a : Act} {w : World} {Q : Exit → Act → World → Prop}
theorem run_bytes_str {B n c : Nat} {A : Option Addr} {l : List (BitVec 8)} (h : Bytes w B A n l) : (Conv.bytesToString (.slice A n c)).run P w = .ok (.string (strOf l)) w := by
  have hl := h.len
  cases A with
  | none =>
    have hn : n = 0 := by
      rcases Nat.eq_zero_or_pos n with h0 | h0
      · exact h0
      · obtain ⟨ad, e, _⟩ := h.2 h0
        cases e
    subst hn
    have : l = [] := List.eq_nil_of_length_eq_zero hl
    subst this
    rfl
  | some ad =>
    have hc : ∀ j u, (l.map V8)[j]? = some u → w.cell? (ad.add j) = some u := by
      intro j u hu
      have hj : j < l.length := by have := (List.getElem?_eq_some_iff.1 hu).1; simpa using this
      obtain ⟨ad', e, _, hc⟩ := h.2 (by omega)
      injection e with e
      subst e
      exact hc j u hu
    have hload := run_loadCells_list (P := P) w ad (l.map V8) hc
    rw [List.length_map, hl] at hload
    have e1 : l.map V8 = (l.map (fun x => (x.toNat : Int))).map (Value.int .u8) := by rw [List.map_map]; rfl
    rw [e1] at hload
    rw [run_bytesToString w ad n c _ hload, foldl_push]
    simp [strOf]
theorem wpList_conv_str (hgd : Region.wanted o (yielded ops a.tmps) = true) (src dst e : TypeId) (x : Operand) (ho : o.op = .convert src dst x) (hs : P.underlying src = some (.slice e)) (he : P.underlying e = some (.int .u8)) (hd : P.underlying dst = some .string)
    (B n c : Nat) (A : Option Addr) (l : List (BitVec 8)) (hx : a.eval x = .slice A n c) (hb : Bytes w B A n l) (h : wpList P ops Q rest (a.put o.dst (.string (strOf l))) w) : wpList P ops Q (o :: rest) a w :=
  BigFrame.wpList_want hgd fun K hK => by
    unfold Oper.wp execOp
    simp only [ho, hx, Sem.run_bind, Sem.run_pure, Result.andThen_ok, run_convert_bytes_string w src dst e A n c hs he hd, run_bytes_str hb]
    exact hK _ _ h
end
/-- The sixteen digits. -/
def digits : List (BitVec 8) := [48, 49, 50, 51, 52, 53, 54, 55, 56, 57, 97, 98, 99, 100, 101, 102]
def dig (x : BitVec 8) : BitVec 8 := digits.getD x.toNat 0
def hexl (h : List (BitVec 8)) : List (BitVec 8) := h.flatMap fun c : BitVec 8 => [dig (c >>> 4), dig (c &&& 15)]
theorem hexl_length (h : List (BitVec 8)) : (hexl h).length = 2 * h.length := by
  induction h with
  | nil => rfl
  | cons x h ih => simp only [hexl, List.flatMap_cons, List.length_append, List.length_cons, List.length_nil] at ih ⊢; omega
theorem hexl_take (h : List (BitVec 8)) (k : Nat) (hk : k < h.length) : (hexl (h.take k)).map V8 ++ [dig (h.getD k 0 >>> 4), dig (h.getD k 0 &&& 15)].map V8 = (hexl (h.take (k + 1))).map V8 := by
  have hg : h.getD k 0 = h[k] := by simp [List.getElem?_eq_getElem hk]
  rw [hg, List.take_succ_eq_append_getElem hk]
  unfold hexl
  rw [List.flatMap_append, List.map_append]
  rfl
theorem dig_0 (w : World) : (Instr.index 9 (.string { data := #[48, 49, 50, 51, 52, 53, 54, 55, 56, 57, 97, 98, 99, 100, 101, 102] }) (.int .u8 ((0 : Nat) : Int))).run Try.prog w = .ok (V8 (digits.getD 0 0)) w := by kernel_rfl
theorem dig_1 (w : World) : (Instr.index 9 (.string { data := #[48, 49, 50, 51, 52, 53, 54, 55, 56, 57, 97, 98, 99, 100, 101, 102] }) (.int .u8 ((1 : Nat) : Int))).run Try.prog w = .ok (V8 (digits.getD 1 0)) w := by kernel_rfl
theorem dig_2 (w : World) : (Instr.index 9 (.string { data := #[48, 49, 50, 51, 52, 53, 54, 55, 56, 57, 97, 98, 99, 100, 101, 102] }) (.int .u8 ((2 : Nat) : Int))).run Try.prog w = .ok (V8 (digits.getD 2 0)) w := by kernel_rfl
theorem dig_3 (w : World) : (Instr.index 9 (.string { data := #[48, 49, 50, 51, 52, 53, 54, 55, 56, 57, 97, 98, 99, 100, 101, 102] }) (.int .u8 ((3 : Nat) : Int))).run Try.prog w = .ok (V8 (digits.getD 3 0)) w := by kernel_rfl
theorem dig_4 (w : World) : (Instr.index 9 (.string { data := #[48, 49, 50, 51, 52, 53, 54, 55, 56, 57, 97, 98, 99, 100, 101, 102] }) (.int .u8 ((4 : Nat) : Int))).run Try.prog w = .ok (V8 (digits.getD 4 0)) w := by kernel_rfl
theorem dig_5 (w : World) : (Instr.index 9 (.string { data := #[48, 49, 50, 51, 52, 53, 54, 55, 56, 57, 97, 98, 99, 100, 101, 102] }) (.int .u8 ((5 : Nat) : Int))).run Try.prog w = .ok (V8 (digits.getD 5 0)) w := by kernel_rfl
theorem dig_6 (w : World) : (Instr.index 9 (.string { data := #[48, 49, 50, 51, 52, 53, 54, 55, 56, 57, 97, 98, 99, 100, 101, 102] }) (.int .u8 ((6 : Nat) : Int))).run Try.prog w = .ok (V8 (digits.getD 6 0)) w := by kernel_rfl
theorem dig_7 (w : World) : (Instr.index 9 (.string { data := #[48, 49, 50, 51, 52, 53, 54, 55, 56, 57, 97, 98, 99, 100, 101, 102] }) (.int .u8 ((7 : Nat) : Int))).run Try.prog w = .ok (V8 (digits.getD 7 0)) w := by kernel_rfl
theorem dig_8 (w : World) : (Instr.index 9 (.string { data := #[48, 49, 50, 51, 52, 53, 54, 55, 56, 57, 97, 98, 99, 100, 101, 102] }) (.int .u8 ((8 : Nat) : Int))).run Try.prog w = .ok (V8 (digits.getD 8 0)) w := by kernel_rfl
theorem dig_9 (w : World) : (Instr.index 9 (.string { data := #[48, 49, 50, 51, 52, 53, 54, 55, 56, 57, 97, 98, 99, 100, 101, 102] }) (.int .u8 ((9 : Nat) : Int))).run Try.prog w = .ok (V8 (digits.getD 9 0)) w := by kernel_rfl
theorem dig_10 (w : World) : (Instr.index 9 (.string { data := #[48, 49, 50, 51, 52, 53, 54, 55, 56, 57, 97, 98, 99, 100, 101, 102] }) (.int .u8 ((10 : Nat) : Int))).run Try.prog w = .ok (V8 (digits.getD 10 0)) w := by kernel_rfl
theorem dig_11 (w : World) : (Instr.index 9 (.string { data := #[48, 49, 50, 51, 52, 53, 54, 55, 56, 57, 97, 98, 99, 100, 101, 102] }) (.int .u8 ((11 : Nat) : Int))).run Try.prog w = .ok (V8 (digits.getD 11 0)) w := by kernel_rfl
theorem dig_12 (w : World) : (Instr.index 9 (.string { data := #[48, 49, 50, 51, 52, 53, 54, 55, 56, 57, 97, 98, 99, 100, 101, 102] }) (.int .u8 ((12 : Nat) : Int))).run Try.prog w = .ok (V8 (digits.getD 12 0)) w := by kernel_rfl
theorem dig_13 (w : World) : (Instr.index 9 (.string { data := #[48, 49, 50, 51, 52, 53, 54, 55, 56, 57, 97, 98, 99, 100, 101, 102] }) (.int .u8 ((13 : Nat) : Int))).run Try.prog w = .ok (V8 (digits.getD 13 0)) w := by kernel_rfl
theorem dig_14 (w : World) : (Instr.index 9 (.string { data := #[48, 49, 50, 51, 52, 53, 54, 55, 56, 57, 97, 98, 99, 100, 101, 102] }) (.int .u8 ((14 : Nat) : Int))).run Try.prog w = .ok (V8 (digits.getD 14 0)) w := by kernel_rfl
theorem dig_15 (w : World) : (Instr.index 9 (.string { data := #[48, 49, 50, 51, 52, 53, 54, 55, 56, 57, 97, 98, 99, 100, 101, 102] }) (.int .u8 ((15 : Nat) : Int))).run Try.prog w = .ok (V8 (digits.getD 15 0)) w := by kernel_rfl
theorem run_index_digit (x : BitVec 8) (hx : x.toNat < 16) (w : World) : (Instr.index 9 (.string { data := #[48, 49, 50, 51, 52, 53, 54, 55, 56, 57, 97, 98, 99, 100, 101, 102] }) (V8 x)).run Try.prog w = .ok (V8 (dig x)) w := by
  unfold dig
  show (Instr.index 9 (.string { data := #[48, 49, 50, 51, 52, 53, 54, 55, 56, 57, 97, 98, 99, 100, 101, 102] }) (.int .u8 (x.toNat : Int))).run Try.prog w = _
  generalize x.toNat = k at hx
  have h : k = 0 ∨ k = 1 ∨ k = 2 ∨ k = 3 ∨ k = 4 ∨ k = 5 ∨ k = 6 ∨ k = 7 ∨ k = 8 ∨ k = 9 ∨ k = 10 ∨ k = 11 ∨ k = 12 ∨ k = 13 ∨ k = 14 ∨ k = 15 := by omega
  rcases h with rfl | rfl | rfl | rfl | rfl | rfl | rfl | rfl | rfl | rfl | rfl | rfl | rfl | rfl | rfl | rfl
  · exact dig_0 w
  · exact dig_1 w
  · exact dig_2 w
  · exact dig_3 w
  · exact dig_4 w
  · exact dig_5 w
  · exact dig_6 w
  · exact dig_7 w
  · exact dig_8 w
  · exact dig_9 w
  · exact dig_10 w
  · exact dig_11 w
  · exact dig_12 w
  · exact dig_13 w
  · exact dig_14 w
  · exact dig_15 w
section
variable {P : Program} {ops : Array Oper} {o : Oper} {a : Act} {w : World} {Q : Exit → Act → World → Prop}
/-- The append as one step of a region that draws its order. -/
theorem step_append_row {K : Act → World → Prop} {E : Prop} {w0 : World} {own : Nat → Prop} {L : List Item} (hgd : o.guard = none) (s x : Operand) (t : TypeId)
    (ho : o.op = .call { callee := .builtin .append, args := #[s, x], argTypes := #[t, t] })
    (hM : Mem w0 own w L) (i : Nat) (v : Value) (e : TypeId) (size n : Nat) (xs : List Value) (hi : L[i]? = some (.row v e size n xs)) (hs : a.eval s = v)
    (ht : P.underlying t = some (.slice e)) (z : Value) (bytes : Nat) (hz : Row3 P e z size bytes) (hzs : z.cells.size = size) (hsz : 0 < size)
    (B : Nat) (A : Option Addr) (m c : Nat) (news : List Value) (hx : a.eval x = .slice A m c) (hr : Reads w B size A m news) (h1 : ∀ u ∈ news, u.oneCell' = true)
    (h63 : n + m ≤ maxLen) (hbytes : (n + m) * bytes ≤ 140737488355328) (k : Nat) (hk : n + m = k) (ys : List Value) (hys : xs ++ news = ys)
    (h : ∀ A' c' w', Mem w0 own w' (L.set i (.row (.slice A' k c') e size k ys)) → K (a.put o.dst (.slice A' k c')) w') :
    if Region.wanted o (yielded ops a.tmps) = true then Oper.wp P o a w K Q else E := by
  have hw : Region.wanted o (yielded ops a.tmps) = true := by simp [Region.wanted, hgd]
  rw [if_pos hw]
  subst hk; subst hys
  refine wp_append_mem s x t ho hM i v e size n xs hi hs ht z bytes hz hzs hsz B A m c news hx hr h1 h63 hbytes (fun v' w' hM' _ => ?_)
  have hl : i < L.length := (List.getElem?_eq_some_iff.1 hi).1
  obtain ⟨A', c', rfl, _, _⟩ := row_form (hM'.row i (v := v') (e := e) (size := size) (n := n + m) (xs := xs ++ news) (by simp [hl]))
  exact h A' c' w' hM'
end

set_option maxRecDepth 100000 in
set_option maxHeartbeats 1000000 in
theorem Hex_any (w : World) (h : List (BitVec 8)) (hh : h.length = 32) :
    Calls Try.prog 23 #[.agg (hv h)] w fun e w' => e = .returned (.string (strOf (hexl h))) ∧ Grow w noOwn w' := by
  have hM := (Mem.nil w noOwn).pushNil 5 1
  have HH := hide hh
  clear hh
  go_enter Try.func23, Try.ntmps23
  go_wp2_with (first
    | (refine wpList_box_mem hM rfl 25 _ rfl (.agg (hv h)) rfl (hv h) rfl ?_; clear hM; intro g1 w1 hM)
    | (refine wpList_load_mem rfl 25 _ rfl hM 0 _ _ _ rfl rfl (.array 32 5) (by kernel_rfl) rfl (size32 _ (unhide HH)) ?_))
  replace hM := hM.tail
  have hM : Mem w noOwn w1 [.row (.slice none 0 0) 5 1 0 []] := hM
  go_loopw [3, 7] (fun v iv wr => ∃ (k : Nat) (A' : Option Addr) (c' : Nat), k ≤ 32 ∧ iv = .int .i64 k ∧ v = .slice A' (2 * k) c' ∧ Mem w noOwn wr [.row (.slice A' (2 * k) c') 5 1 (2 * k) ((hexl (h.take k)).map V8)]) (fun _ iv _ => 32 - (intOf iv).toNat)
  case atStart => exact ⟨0, none, 0, by omega, rfl, rfl, hM⟩
  case round =>
    clear hM
    obtain ⟨k, A', c', hk32, rfl, rfl, hM⟩ := hrel
    by_cases hlt : k < 32
    · obtain ⟨x, hx⟩ : ∃ x, x = h.getD k 0 := ⟨_, rfl⟩
      have hix := fun w => run_index_agg Try.prog 25 5 32 (by kernel_rfl) (by kernel_rfl) .u8 (by kernel_rfl) (hv h) k (V8 x) (by rw [hx]; exact hv_get _ _ (by rw [unhide HH]; exact hlt)) hlt w
      have HX := hide hx
      clear hx
      go_wp2_with fail
      clear hix
      have hd1 := run_index_digit (x >>> 4) (by rw [BitVec.toNat_ushiftRight, Nat.shiftRight_eq_div_pow]; have := x.isLt; omega)
      have hd2 := run_index_digit (x &&& BitVec.ofNat 8 15) (by rw [BitVec.toNat_and]; exact Nat.lt_of_le_of_lt Nat.and_le_right (by decide))
      have hMa := hM.drew.alloc 5 (#[V8 (dig (x >>> 4)), V8 (dig (x &&& BitVec.ofNat 8 15))])
      have hra : Reads (wr.drew.alloc (.cells #[V8 (dig (x >>> 4)), V8 (dig (x &&& BitVec.ofNat 8 15))] 5)) _ 1 (some ⟨wr.heap.size, 0, none⟩) 2 ([dig (x >>> 4), dig (x &&& BitVec.ofNat 8 15)].map V8) := (hMa.blk 0 rfl).reads 0 2 (by simp)
      have HMa := hide hMa
      have HRa := hide hra
      clear hMa hra
      go_region_law (refine step_append_row rfl (.tmp 10) (.tmp 17) 22 rfl (unhide HMa) 1 _ 5 1 (2 * k) _ rfl rfl Try.underlying22 _ 1 u8row rfl (by decide) _ _ 2 2 ([dig (x >>> 4), dig (x &&& BitVec.ofNat 8 15)].map V8) rfl (unhide HRa) (one8 _) (by simp only [maxLen]; omega) (by omega) (2 * (k + 1)) (by omega) ((hexl (h.take (k + 1))).map V8) (by rw [unhide HX]; exact hexl_take h k (by rw [unhide HH]; exact hlt)) ?_; intro A18 c18 w18 hM18)
      all_goals
        replace hM18 := hM18.tail
        go_wp2_with fail
        go_roundw
        case rel => exact ⟨k + 1, A18, c18, by omega, by go_num, rfl, hM18⟩
        case measure => simp [intOf]; omega
    · obtain rfl : k = 32 := by omega
      have ht : h.take 32 = h := List.take_of_length_le (by rw [unhide HH]; exact Nat.le_refl _)
      rw [ht] at hM
      clear ht
      go_wp2_with (first
        | (refine wpList_conv_str rfl 22 9 5 _ rfl Try.underlying22 Try.underlying5 Try.underlying9 _ _ _ _ (hexl h) rfl (Reads.of_own (hM.row 0 rfl)) ?_))
      go_ret
      exact ⟨rfl, hM.grow⟩

theorem sld_0 (w : World) : (Instr.sliceAt 9 (.string { data := #[48, 49, 50, 51, 52, 53, 54, 55, 56, 57, 97, 98, 99, 100, 101, 102] }) (some (.int .u8 ((0 : Nat) : Int))) (some (.int .u8 (((0 : Nat) : Int) + 1))) none).run Try.prog w = .ok (.string (strOf [digits.getD 0 0])) w := by kernel_rfl
theorem sld_1 (w : World) : (Instr.sliceAt 9 (.string { data := #[48, 49, 50, 51, 52, 53, 54, 55, 56, 57, 97, 98, 99, 100, 101, 102] }) (some (.int .u8 ((1 : Nat) : Int))) (some (.int .u8 (((1 : Nat) : Int) + 1))) none).run Try.prog w = .ok (.string (strOf [digits.getD 1 0])) w := by kernel_rfl
theorem sld_2 (w : World) : (Instr.sliceAt 9 (.string { data := #[48, 49, 50, 51, 52, 53, 54, 55, 56, 57, 97, 98, 99, 100, 101, 102] }) (some (.int .u8 ((2 : Nat) : Int))) (some (.int .u8 (((2 : Nat) : Int) + 1))) none).run Try.prog w = .ok (.string (strOf [digits.getD 2 0])) w := by kernel_rfl
theorem sld_3 (w : World) : (Instr.sliceAt 9 (.string { data := #[48, 49, 50, 51, 52, 53, 54, 55, 56, 57, 97, 98, 99, 100, 101, 102] }) (some (.int .u8 ((3 : Nat) : Int))) (some (.int .u8 (((3 : Nat) : Int) + 1))) none).run Try.prog w = .ok (.string (strOf [digits.getD 3 0])) w := by kernel_rfl
theorem sld_4 (w : World) : (Instr.sliceAt 9 (.string { data := #[48, 49, 50, 51, 52, 53, 54, 55, 56, 57, 97, 98, 99, 100, 101, 102] }) (some (.int .u8 ((4 : Nat) : Int))) (some (.int .u8 (((4 : Nat) : Int) + 1))) none).run Try.prog w = .ok (.string (strOf [digits.getD 4 0])) w := by kernel_rfl
theorem sld_5 (w : World) : (Instr.sliceAt 9 (.string { data := #[48, 49, 50, 51, 52, 53, 54, 55, 56, 57, 97, 98, 99, 100, 101, 102] }) (some (.int .u8 ((5 : Nat) : Int))) (some (.int .u8 (((5 : Nat) : Int) + 1))) none).run Try.prog w = .ok (.string (strOf [digits.getD 5 0])) w := by kernel_rfl
theorem sld_6 (w : World) : (Instr.sliceAt 9 (.string { data := #[48, 49, 50, 51, 52, 53, 54, 55, 56, 57, 97, 98, 99, 100, 101, 102] }) (some (.int .u8 ((6 : Nat) : Int))) (some (.int .u8 (((6 : Nat) : Int) + 1))) none).run Try.prog w = .ok (.string (strOf [digits.getD 6 0])) w := by kernel_rfl
theorem sld_7 (w : World) : (Instr.sliceAt 9 (.string { data := #[48, 49, 50, 51, 52, 53, 54, 55, 56, 57, 97, 98, 99, 100, 101, 102] }) (some (.int .u8 ((7 : Nat) : Int))) (some (.int .u8 (((7 : Nat) : Int) + 1))) none).run Try.prog w = .ok (.string (strOf [digits.getD 7 0])) w := by kernel_rfl
theorem sld_8 (w : World) : (Instr.sliceAt 9 (.string { data := #[48, 49, 50, 51, 52, 53, 54, 55, 56, 57, 97, 98, 99, 100, 101, 102] }) (some (.int .u8 ((8 : Nat) : Int))) (some (.int .u8 (((8 : Nat) : Int) + 1))) none).run Try.prog w = .ok (.string (strOf [digits.getD 8 0])) w := by kernel_rfl
theorem sld_9 (w : World) : (Instr.sliceAt 9 (.string { data := #[48, 49, 50, 51, 52, 53, 54, 55, 56, 57, 97, 98, 99, 100, 101, 102] }) (some (.int .u8 ((9 : Nat) : Int))) (some (.int .u8 (((9 : Nat) : Int) + 1))) none).run Try.prog w = .ok (.string (strOf [digits.getD 9 0])) w := by kernel_rfl
theorem sld_10 (w : World) : (Instr.sliceAt 9 (.string { data := #[48, 49, 50, 51, 52, 53, 54, 55, 56, 57, 97, 98, 99, 100, 101, 102] }) (some (.int .u8 ((10 : Nat) : Int))) (some (.int .u8 (((10 : Nat) : Int) + 1))) none).run Try.prog w = .ok (.string (strOf [digits.getD 10 0])) w := by kernel_rfl
theorem sld_11 (w : World) : (Instr.sliceAt 9 (.string { data := #[48, 49, 50, 51, 52, 53, 54, 55, 56, 57, 97, 98, 99, 100, 101, 102] }) (some (.int .u8 ((11 : Nat) : Int))) (some (.int .u8 (((11 : Nat) : Int) + 1))) none).run Try.prog w = .ok (.string (strOf [digits.getD 11 0])) w := by kernel_rfl
theorem sld_12 (w : World) : (Instr.sliceAt 9 (.string { data := #[48, 49, 50, 51, 52, 53, 54, 55, 56, 57, 97, 98, 99, 100, 101, 102] }) (some (.int .u8 ((12 : Nat) : Int))) (some (.int .u8 (((12 : Nat) : Int) + 1))) none).run Try.prog w = .ok (.string (strOf [digits.getD 12 0])) w := by kernel_rfl
theorem sld_13 (w : World) : (Instr.sliceAt 9 (.string { data := #[48, 49, 50, 51, 52, 53, 54, 55, 56, 57, 97, 98, 99, 100, 101, 102] }) (some (.int .u8 ((13 : Nat) : Int))) (some (.int .u8 (((13 : Nat) : Int) + 1))) none).run Try.prog w = .ok (.string (strOf [digits.getD 13 0])) w := by kernel_rfl
theorem sld_14 (w : World) : (Instr.sliceAt 9 (.string { data := #[48, 49, 50, 51, 52, 53, 54, 55, 56, 57, 97, 98, 99, 100, 101, 102] }) (some (.int .u8 ((14 : Nat) : Int))) (some (.int .u8 (((14 : Nat) : Int) + 1))) none).run Try.prog w = .ok (.string (strOf [digits.getD 14 0])) w := by kernel_rfl
theorem sld_15 (w : World) : (Instr.sliceAt 9 (.string { data := #[48, 49, 50, 51, 52, 53, 54, 55, 56, 57, 97, 98, 99, 100, 101, 102] }) (some (.int .u8 ((15 : Nat) : Int))) (some (.int .u8 (((15 : Nat) : Int) + 1))) none).run Try.prog w = .ok (.string (strOf [digits.getD 15 0])) w := by kernel_rfl
theorem run_slice_digit (q : Nat) (hq : q < 16) (w : World) : (Instr.sliceAt 9 (.string { data := #[48, 49, 50, 51, 52, 53, 54, 55, 56, 57, 97, 98, 99, 100, 101, 102] }) (some (.int .u8 (q : Int))) (some (.int .u8 ((q : Int) + 1))) none).run Try.prog w = .ok (.string (strOf [digits.getD q 0])) w := by
  have h : q = 0 ∨ q = 1 ∨ q = 2 ∨ q = 3 ∨ q = 4 ∨ q = 5 ∨ q = 6 ∨ q = 7 ∨ q = 8 ∨ q = 9 ∨ q = 10 ∨ q = 11 ∨ q = 12 ∨ q = 13 ∨ q = 14 ∨ q = 15 := by omega
  rcases h with rfl | rfl | rfl | rfl | rfl | rfl | rfl | rfl | rfl | rfl | rfl | rfl | rfl | rfl | rfl | rfl
  · exact sld_0 w
  · exact sld_1 w
  · exact sld_2 w
  · exact sld_3 w
  · exact sld_4 w
  · exact sld_5 w
  · exact sld_6 w
  · exact sld_7 w
  · exact sld_8 w
  · exact sld_9 w
  · exact sld_10 w
  · exact sld_11 w
  · exact sld_12 w
  · exact sld_13 w
  · exact sld_14 w
  · exact sld_15 w
theorem dig_hi (x : BitVec 8) : dig (x >>> 4) = digits.getD (x.toNat / 16) 0 := by
  unfold dig; rw [BitVec.toNat_ushiftRight, Nat.shiftRight_eq_div_pow]
theorem dig_lo (x : BitVec 8) : dig (x &&& 15) = digits.getD (x.toNat % 16) 0 := by
  unfold dig; rw [BitVec.toNat_and]
  have := Nat.and_two_pow_sub_one_eq_mod x.toNat 4
  exact congrArg (fun n => digits.getD n 0) this
theorem strOf_size (l : List (BitVec 8)) : (strOf l).size = l.length := by simp [strOf, ByteArray.size]
theorem strOf_take (h : List (BitVec 8)) (k : Nat) (hk : k < h.length) : strOf (hexl (h.take k)) ++ strOf [dig (h.getD k 0 >>> 4)] ++ strOf [dig (h.getD k 0 &&& 15)] = strOf (hexl (h.take (k + 1))) := by
  have hg : h.getD k 0 = h[k] := by simp [List.getElem?_eq_getElem hk]
  rw [hg, List.take_succ_eq_append_getElem hk]
  unfold hexl
  rw [List.flatMap_append]
  unfold strOf
  apply ByteArray.ext
  simp

set_option maxRecDepth 100000 in
set_option maxHeartbeats 1000000 in
theorem RHex_any (w : World) (h : List (BitVec 8)) (hh : h.length = 32) :
    Calls Try.prog 24 #[.agg (hv h)] w fun e w' => e = .returned (.string (strOf (hexl h))) ∧ Grow w noOwn w' := by
  have hM := Mem.nil w noOwn
  have HH := hide hh
  clear hh
  go_enter Try.func24, Try.ntmps24
  go_wp2_with (first
    | (refine wpList_box_mem hM rfl 25 _ rfl (.agg (hv h)) rfl (hv h) rfl ?_; clear hM; intro g1 w1 hM))
  go_loopw [3, 4] (fun v iv wr => ∃ (k : Nat), k ≤ 32 ∧ iv = .int .i64 k ∧ v = .string (strOf (hexl (h.take k))) ∧ Mem w noOwn wr [.blk g1 25 (hv h)]) (fun _ iv _ => 32 - (intOf iv).toNat)
  case atStart => exact ⟨0, by omega, rfl, rfl, hM⟩
  case round =>
    clear hM
    obtain ⟨k, hk32, rfl, rfl, hM⟩ := hrel
    by_cases hlt : k < 32
    · obtain ⟨x, hx⟩ : ∃ x, x = h.getD k 0 := ⟨_, rfl⟩
      have c0 : wr.cell? ⟨g1, k, none⟩ = some (.int .u8 (x.toNat : Int)) := by rw [hx]; exact (hM.cell 0 rfl k).trans (hv_get _ _ (by rw [unhide HH]; exact hlt))
      have hxb : (x.toNat : Int) < 256 := by have := x.isLt; omega
      have hxa : (0 : Int) ≤ (x.toNat : Int) := by omega
      have HX := hide hx
      clear hx
      obtain ⟨s, hs⟩ : ∃ s, s = strOf (hexl (h.take k)) := ⟨_, rfl⟩
      rw [← hs]
      have HS := hide hs
      clear hs
      go_wp2_with fail
      obtain ⟨q, hq⟩ : ∃ q, q = x.toNat / 16 := ⟨_, rfl⟩
      obtain ⟨r, hr⟩ : ∃ r, r = x.toNat % 16 := ⟨_, rfl⟩
      have e1 : IntKind.u8.wrap ((x.toNat : Int).tdiv 16) = (q : Int) := by rw [IntWalk.u8_quo _ _ (by omega), hq]; rfl
      have e1' : IntKind.u8.wrap ((x.toNat : Int) / 16) = (q : Int) := by rw [IntWalk.u8_in _ (by omega), hq]; rfl
      have e2 : IntKind.u8.wrap ((q : Int) + 1) = (q : Int) + 1 := IntWalk.u8_in _ (by omega)
      have e3 : ((x.toNat : Int).tmod 16) = (r : Int) := by rw [IntWalk.rem_in _ _ (by omega), hr]; rfl
      have e4 : IntKind.u8.wrap ((r : Int) + 1) = (r : Int) + 1 := IntWalk.u8_in _ (by omega)
      have e5 := run_slice_digit q (by omega)
      have e6 := run_slice_digit r (by omega)
      obtain ⟨D1, hD1⟩ : ∃ D, D = strOf [digits.getD q 0] := ⟨_, rfl⟩
      obtain ⟨D2, hD2⟩ : ∃ D, D = strOf [digits.getD r 0] := ⟨_, rfl⟩
      rw [← hD1] at e5
      rw [← hD2] at e6
      have s0 : s.size ≤ 64 := by rw [unhide HS, strOf_size, hexl_length, List.length_take]; omega
      have s1 : D1.size = 1 := by rw [hD1, strOf_size]; rfl
      have s2 : D2.size = 1 := by rw [hD2, strOf_size]; rfl
      have a1 := fun w => run_string_add_sum (P := Try.prog) w s D1 (by omega)
      have a2 := fun w => run_string_add_sum (P := Try.prog) w (s ++ D1) D2 (by rw [ByteArray.size_append]; omega)
      have Hq := hide hq
      have Hr := hide hr
      have HD1 := hide hD1
      have HD2 := hide hD2
      clear hq hr hD1 hD2 s0 s1 s2
      go_quiet (fail)
      clear e1 e1' e2 e3 e4 e5 e6 a1 a2
      go_wp2_with fail
      go_roundw
      case rel =>
        refine ⟨k + 1, by omega, by go_num, ?_, hM.drewN _⟩
        have h1 := strOf_take h k (by rw [unhide HH]; exact hlt)
        rw [← unhide HX, dig_hi, dig_lo, ← unhide Hq, ← unhide Hr, ← unhide HS, ← unhide HD1, ← unhide HD2] at h1
        rw [← h1]
      case measure => simp [intOf]; omega
    · obtain rfl : k = 32 := by omega
      have ht : h.take 32 = h := List.take_of_length_le (by rw [unhide HH]; exact Nat.le_refl _)
      rw [ht]
      clear ht
      go_wp2_with fail
      go_ret
      exact ⟨rfl, hM.grow⟩
end Go.Proofs.Ytggpchdgljhmdaa
