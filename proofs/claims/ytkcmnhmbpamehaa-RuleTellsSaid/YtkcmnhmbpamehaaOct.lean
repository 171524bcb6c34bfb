/- octet: numbers as bytes. -/
import Derived.Test.YtkcmnhmbpamehaaTypes
import Derived.Test.YtkcmnhmbpamehaaSeal
namespace Go.Proofs.Ytkcmnhmbpamehaa
open Go.RowKit Go.MapKept
set_option linter.unusedSimpArgs false
set_option linter.unusedVariables false
/-- A number's bytes, seven bits each, the lowest first. -/
def vnum (u : Nat) : List (BitVec 8) := if h : u < 128 then [BitVec.ofNat 8 u] else BitVec.ofNat 8 (u % 128 + 128) :: vnum (u / 128)
termination_by u
decreasing_by omega
theorem vnum_low {u : Nat} (h : u < 128) : vnum u = [BitVec.ofNat 8 u] := by rw [vnum, dif_pos h]
theorem vnum_high {u : Nat} (h : 128 ≤ u) : vnum u = BitVec.ofNat 8 (u % 128 + 128) :: vnum (u / 128) := by rw [vnum, dif_neg (by omega)]
theorem vnum_len : ∀ (k u : Nat), u < 128 ^ (k + 1) → (vnum u).length ≤ k + 1
  | 0, u, h => by rw [vnum_low (by simpa using h)]; simp
  | k + 1, u, h => by
    by_cases hu : u < 128
    · rw [vnum_low hu]; simp
    · rw [vnum_high (by omega)]
      have := vnum_len k (u / 128) (by
        rw [Nat.pow_succ] at h
        exact Nat.div_lt_of_lt_mul (by rw [Nat.mul_comm]; exact h))
      simp only [List.length_cons]
      omega
/-- What of a number is written. -/
def num (z : Int) : Nat := (max 0 (min z 4611686018427387904)).toNat
theorem num_le (z : Int) : num z ≤ 4611686018427387904 := by unfold num; omega
theorem num_int (z : Int) : ((num z : Nat) : Int) = max 0 (min z 4611686018427387904) := by unfold num; omega
def numB (z : Int) : List (BitVec 8) := vnum (num z)
def numsB (xs : List Int) : List (BitVec 8) := xs.flatMap numB
theorem numB_len (z : Int) : (numB z).length ≤ 9 := vnum_len 8 _ (by have := num_le z; omega)
theorem numsB_len (xs : List Int) : (numsB xs).length ≤ 9 * xs.length := by
  induction xs with
  | nil => simp [numsB]
  | cons x xs ih =>
    have := numB_len x
    simp only [numsB, List.flatMap_cons, List.length_append, List.length_cons] at ih ⊢
    omega
theorem numsB_cons (x : Int) (xs : List Int) : numsB (x :: xs) = numB x ++ numsB xs := rfl
theorem u64_num (z : Int) : IntKind.u64.wrap (max 0 (min z 4611686018427387904)) = ((num z : Nat) : Int) := by
  rw [num_int, IntKind.wrap_u64]
  omega
theorem or128 : ∀ x : BitVec 8, x ||| 128#8 = BitVec.ofNat 8 (x.toNat % 128 + 128) := by decide
theorem u8_or (u : Nat) : bits .or .u8 ((u : Int) % 256) 128 = ((u % 128 + 128 : Nat) : Int) := by
  rw [← IntKind.wrap_u8]
  show IntKind.u8.wrap ((BitVec.ofInt 8 (IntKind.u8.wrap (u : Int)) ||| BitVec.ofInt 8 128).toNat : Int) = _
  have h1 : BitVec.ofInt 8 (IntKind.u8.wrap (u : Int)) = BitVec.ofNat 8 u := by
    apply BitVec.eq_of_toNat_eq
    rw [IntKind.wrap_u8]
    simp [BitVec.toNat_ofInt]
    omega
  rw [h1, show BitVec.ofInt 8 128 = 128#8 from rfl, or128, IntKind.wrap_u8]
  simp
  omega
theorem Mem.perm {w0 w : World} {own : Nat → Prop} {L L' : List Item} (h : Mem w0 own w L) (hp : L.Perm L') : Mem w0 own w L' :=
  ⟨h.grow, fun x hx => h.has x (hp.mem_iff.2 hx), (hp.pairwise_iff (fun hab g hb ha => hab g ha hb)).1 h.apart, fun x hx => h.mine x (hp.mem_iff.2 hx)⟩
/-- L stands at the end of what is at hand. -/
class HasTail (L' L : List Item) : Prop where out : ∀ {w0 w : World} {own : Nat → Prop}, Mem w0 own w L' → Mem w0 own w L
instance {L : List Item} : HasTail L L := ⟨fun h => h⟩
instance (priority := low) {L' L : List Item} {x : Item} [h : HasTail L' L] : HasTail (x :: L') L := ⟨fun hM => h.out hM.tail⟩
theorem reads_cell {w : World} {n : Nat} {B : Option Addr} {xs : List Value} (h : Reads w w.heap.size 1 B n xs) (k : Nat) (hk : k < xs.length) (hn : xs.length = n) : ∃ b off, B = some ⟨b, off, none⟩ ∧ b < w.heap.size ∧ w.cell? ⟨b, off + k, none⟩ = some xs[k] := by
  obtain ⟨b, off, e, hb, hc⟩ := h.form (by omega) (by decide)
  exact ⟨b, off, e, hb, hc k _ (by rw [List.getElem?_eq_getElem hk])⟩
section
variable {P : Program} {l : List Oper} {rest : List Oper} {o : Oper} {w w0 : World} {own : Nat → Prop} {L : List Item} {Q : Exit → Act → World → Prop} {T0 : List Value} {d0 : List Deferred}
theorem wl_appr {s x : Operand} {T : TypeId} (ho : o.op = .call { callee := .builtin .append, args := #[s, x], argTypes := #[T, T] }) (hM : Mem w0 own w L) (hgd : wantB l T0 o.guard = some true) {e : TypeId} {z : Value} {size bytes : Nat} (ht : TySl P T e z size bytes)
    {v : Value} (hs : ev T0 s = some (v)) {A : Option Addr} {m c : Nat} (hx : ev T0 x = some (.slice A m c)) {news : List Value} (hr : Reads w w.heap.size size A m news) (h1 : ∀ u ∈ news, u.oneCell' = true)
    {i n k : Nat} {xs ys : List Value} (hp : RowIx L v i e size n xs) (h63 : n + m ≤ maxLen) (hbytes : (n + m) * bytes ≤ 140737488355328) (hk : n + m = k) (hys : xs ++ news = ys)
    (h : ∀ A' c' w', Mem w0 own w' (L.set i (.row (.slice A' k c') e size k ys)) → wpList P l.toArray Q rest ⟨(putT T0 o.dst (.slice A' k c')).toArray, d0⟩ w') : wpList P l.toArray Q (o :: rest) ⟨T0.toArray, d0⟩ w :=
  wpList_append_row (want_of hgd) s x T ho hM i v e size n xs hp.out (ev_of hs) ht.under z bytes ht.row ht.zs ht.pos w.heap.size A m c news (ev_of hx) hr h1 h63 hbytes k hk ys hys (by simp only [put_of]; exact h)
end
attribute [local irreducible] wpList Code.wp GW Calls
set_option maxRecDepth 100000 in
set_option maxHeartbeats 4000000 in
theorem Nums_any {w0 w : World} {own : Nat → Prop} {L : List Item} {g c m d : Nat} {A B : Option Addr} {l : List (BitVec 8)} {xs : List Int}
    (hM : Mem w0 own w (.row (.slice A l.length c) 5 1 l.length (l.map V8) :: .blk g 116 #[.slice A l.length c] :: L)) (hm : xs.length = m)
    (HX : ∀ w', Mem w0 own w' L → Reads w' w'.heap.size 1 B m (xs.map (Value.int .i64))) (hG : l.length + 9 * m ≤ 1000000000000) :
    Calls Try.prog 84 #[.pointer (some ⟨g, 0, none⟩), .slice B m d] w fun e w' => (∃ v, e = .returned v) ∧ ∃ A' c',
      Mem w0 own w' (.row (.slice A' (l ++ numsB xs).length c') 5 1 (l ++ numsB xs).length ((l ++ numsB xs).map V8) :: .blk g 116 #[.slice A' (l ++ numsB xs).length c'] :: L) := by
  obtain ⟨G, hGe⟩ : ∃ G, G = l ++ numsB xs := ⟨_, rfl⟩
  have hGl : G.length ≤ 1000000000000 := by
    have := numsB_len xs
    rw [hGe, List.length_append]
    omega
  rw [← hGe]
  have HG := hide hGe
  have hm9 : m ≤ 1000000000000 := by omega
  clear hGe hG
  go_enter Try.func84, Try.ntmps84
  go_wp2_with fail
  have HM := hide hM
  go_loopw [11] (fun ui wr => ∃ (k n c : Nat) (l' : List (BitVec 8)) (A : Option Addr), k ≤ m ∧ ui = .int .i64 k ∧ l'.length = n ∧ Hid (l' ++ numsB (xs.drop k) = G) ∧ Mem w0 own wr (.row (.slice A n c) 5 1 n (l'.map V8) :: .blk g 116 #[.slice A n c] :: L)) (fun ui _ => m - (intOf ui).toNat)
  case atStart => exact ⟨0, _, c, l, A, Nat.zero_le _, rfl, rfl, hide (unhide HG).symm, hM⟩
  case round =>
    clear hM HM HG
    obtain ⟨k, n, c, l', A, hk, rfl, hn, hl, hM⟩ := hrel
    by_cases hlt : k < m
    · obtain ⟨x, hx⟩ : ∃ x, xs[k]? = some x := ⟨_, List.getElem?_eq_getElem (by omega)⟩
      obtain ⟨b, off, rfl, -, -⟩ := reads_cell (HX _ hM.tail.tail) k (by simp; omega) (by simp; omega)
      have c1 : ∀ (L' : List Item) [HasTail L' L], Cell w0 own L' ⟨b, off + k, none⟩ (.int .i64 x) := fun L' h => ⟨fun w hM => by
        obtain ⟨b', off', e, -, hc⟩ := reads_cell (HX _ (h.out hM)) k (by simp; omega) (by simp; omega)
        injection e with e
        injection e with e1 e2 _
        subst e1
        subst e2
        rw [hc]
        simp only [List.getElem_map]
        rw [(List.getElem?_eq_some_iff.1 hx).2]⟩
      have hd : numsB (xs.drop k) = vnum (num x) ++ numsB (xs.drop (k + 1)) := by
        rw [List.drop_eq_getElem_cons (by omega), (List.getElem?_eq_some_iff.1 hx).2, numsB_cons]
        rfl
      have hl1 := unhide hl
      rw [hd] at hl1
      have HL := hide hl1
      have hw := u64_num x
      clear hd hl hl1 hx
      go_wp2_with (first | ((with_reducible refine wl_shape ?_); first | (apply wl_boxa; exact rfl; exact hM; exact rfl; exact rfl; clear hM; intro gg ww hM; simp only [putT, List.set_cons_succ, List.set_cons_zero]) | (apply wl_box1; exact rfl; exact hM; exact rfl; exact rfl; exact rfl; clear hM; intro gg ww hM; simp only [putT, List.set_cons_succ, List.set_cons_zero]) | (apply wl_alloc; exact rfl; exact hM; exact rfl; exact inferInstance; clear hM; intro gg ww hM; simp only [putT, List.set_cons_succ, List.set_cons_zero]) | (apply wl_ld; exact rfl; exact hM; exact rfl; exact rfl; exact inferInstance; exact inferInstance; simp only [putT, List.set_cons_succ, List.set_cons_zero]) | (apply wl_lda; exact rfl; exact hM; exact rfl; exact rfl; exact inferInstance; exact inferInstance; exact inferInstance; exact inferInstance; simp only [putT, List.set_cons_succ, List.set_cons_zero]) | (apply wl_ldr; exact rfl; exact hM; exact rfl; exact rfl; exact inferInstance; exact inferInstance; exact inferInstance; exact inferInstance; simp only [putT, List.set_cons_succ, List.set_cons_zero]) | (apply wl_st; exact rfl; exact hM; exact rfl; exact rfl; exact rfl; exact rfl; exact inferInstance; exact inferInstance; clear hM; intro ww hM; simp only [putT, List.set_cons_succ, List.set_cons_zero]) | (apply wl_sta; exact rfl; exact hM; exact rfl; exact rfl; exact rfl; exact all_oneCell_toArray One.out; exact inferInstance; exact inferInstance; exact inferInstance; clear hM; intro ww hM; simp only [putT, List.set_cons_succ, List.set_cons_zero]) | (apply wl_bs0; exact rfl; exact hM; exact rfl; exact inferInstance; clear hM; intro gg ww hM; simp only [putT, List.set_cons_succ, List.set_cons_zero]) | (apply wl_bs1a; exact rfl; exact hM; exact rfl; exact inferInstance; exact rfl; exact inferInstance; clear hM; intro gg ww hM; simp only [putT, List.set_cons_succ, List.set_cons_zero]) | (apply wl_bs11; exact rfl; exact hM; exact rfl; exact inferInstance; exact rfl; exact rfl; clear hM; intro gg ww hM; simp only [putT, List.set_cons_succ, List.set_cons_zero]) | (apply wl_conv; exact rfl; exact hM; exact rfl; exact rfl; exact inferInstance; exact inferInstance; simp only [putT, List.set_cons_succ, List.set_cons_zero])) | (rw [hw]))
      have HM := hide hM
      go_loopw [6] (fun uu wr => ∃ (u n c : Nat) (l' : List (BitVec 8)) (A : Option Addr), u ≤ 4611686018427387904 ∧ uu = .int .u64 u ∧ l'.length = n ∧ Hid (l' ++ (vnum u ++ numsB (xs.drop (k + 1))) = G) ∧ Mem w0 own wr (.row (.slice A n c) 5 1 n (l'.map V8) :: .blk g 116 #[.slice A n c] :: L)) (fun uu _ => (intOf uu).toNat)
      case atStart => exact ⟨num x, _, c, l', A, num_le x, rfl, hn, HL, hM⟩
      case round =>
        clear hM HM HL hn hw
        obtain ⟨u, n, c, l', A, hu, rfl, hn, hl, hM⟩ := hrel
        have hnl : n ≤ 1000000000000 := by
          have := congrArg List.length (unhide hl)
          rw [List.length_append] at this
          omega
        by_cases h128 : u < 128
        · have hl1 := unhide hl
          rw [vnum_low h128] at hl1
          have e8 : (l'.map V8) ++ [Value.int .u8 (u : Nat)] = (l' ++ [BitVec.ofNat 8 u]).map V8 := by rw [List.map_append, V8_mk u (by omega)]; rfl
          have HL1 := hide hl1
          have E8 := hide e8
          clear hl hl1 e8
          go_wp2_with (first | ((with_reducible refine wl_shape ?_); first | (apply wl_boxa; exact rfl; exact hM; exact rfl; exact rfl; clear hM; intro gg ww hM; simp only [putT, List.set_cons_succ, List.set_cons_zero]) | (apply wl_box1; exact rfl; exact hM; exact rfl; exact rfl; exact rfl; clear hM; intro gg ww hM; simp only [putT, List.set_cons_succ, List.set_cons_zero]) | (apply wl_alloc; exact rfl; exact hM; exact rfl; exact inferInstance; clear hM; intro gg ww hM; simp only [putT, List.set_cons_succ, List.set_cons_zero]) | (apply wl_ld; exact rfl; exact hM; exact rfl; exact rfl; exact inferInstance; exact inferInstance; simp only [putT, List.set_cons_succ, List.set_cons_zero]) | (apply wl_lda; exact rfl; exact hM; exact rfl; exact rfl; exact inferInstance; exact inferInstance; exact inferInstance; exact inferInstance; simp only [putT, List.set_cons_succ, List.set_cons_zero]) | (apply wl_ldr; exact rfl; exact hM; exact rfl; exact rfl; exact inferInstance; exact inferInstance; exact inferInstance; exact inferInstance; simp only [putT, List.set_cons_succ, List.set_cons_zero]) | (apply wl_st; exact rfl; exact hM; exact rfl; exact rfl; exact rfl; exact rfl; exact inferInstance; exact inferInstance; clear hM; intro ww hM; simp only [putT, List.set_cons_succ, List.set_cons_zero]) | (apply wl_sta; exact rfl; exact hM; exact rfl; exact rfl; exact rfl; exact all_oneCell_toArray One.out; exact inferInstance; exact inferInstance; exact inferInstance; clear hM; intro ww hM; simp only [putT, List.set_cons_succ, List.set_cons_zero]) | (apply wl_bs0; exact rfl; exact hM; exact rfl; exact inferInstance; clear hM; intro gg ww hM; simp only [putT, List.set_cons_succ, List.set_cons_zero]) | (apply wl_bs1a; exact rfl; exact hM; exact rfl; exact inferInstance; exact rfl; exact inferInstance; clear hM; intro gg ww hM; simp only [putT, List.set_cons_succ, List.set_cons_zero]) | (apply wl_bs11; exact rfl; exact hM; exact rfl; exact inferInstance; exact rfl; exact rfl; clear hM; intro gg ww hM; simp only [putT, List.set_cons_succ, List.set_cons_zero]) | (apply wl_conv; exact rfl; exact hM; exact rfl; exact rfl; exact inferInstance; exact inferInstance; simp only [putT, List.set_cons_succ, List.set_cons_zero])) | (apply wl_app; exact rfl; exact hM; exact rfl; exact inferInstance; exact rfl; exact rfl; exact inferInstance; exact One.out; exact inferInstance; (unfold maxLen; omega); omega; exact rfl; exact (unhide E8); clear hM; intro A4 c4 ww hM; simp only [List.set_cons_succ, List.set_cons_zero] at hM; simp only [putT, List.set_cons_succ, List.set_cons_zero]))
          go_roundw
          case rel => exact ⟨k + 1, _, c4, _, A4, by omega, by go_num, by simp [hn], hide (by rw [← unhide HL1, List.append_assoc]), hM.tail⟩
          case measure => simp [intOf]; omega
        · have hl1 := unhide hl
          rw [vnum_high (by omega)] at hl1
          have e8 : (l'.map V8) ++ [Value.int .u8 ((u % 128 + 128 : Nat) : Int)] = (l' ++ [BitVec.ofNat 8 (u % 128 + 128)]).map V8 := by rw [List.map_append, V8_mk (u % 128 + 128) (by omega)]; rfl
          have HL1 := hide hl1
          have E8 := hide e8
          have hor := u8_or u
          clear hl hl1 e8
          go_wp2_with (first | ((with_reducible refine wl_shape ?_); first | (apply wl_boxa; exact rfl; exact hM; exact rfl; exact rfl; clear hM; intro gg ww hM; simp only [putT, List.set_cons_succ, List.set_cons_zero]) | (apply wl_box1; exact rfl; exact hM; exact rfl; exact rfl; exact rfl; clear hM; intro gg ww hM; simp only [putT, List.set_cons_succ, List.set_cons_zero]) | (apply wl_alloc; exact rfl; exact hM; exact rfl; exact inferInstance; clear hM; intro gg ww hM; simp only [putT, List.set_cons_succ, List.set_cons_zero]) | (apply wl_ld; exact rfl; exact hM; exact rfl; exact rfl; exact inferInstance; exact inferInstance; simp only [putT, List.set_cons_succ, List.set_cons_zero]) | (apply wl_lda; exact rfl; exact hM; exact rfl; exact rfl; exact inferInstance; exact inferInstance; exact inferInstance; exact inferInstance; simp only [putT, List.set_cons_succ, List.set_cons_zero]) | (apply wl_ldr; exact rfl; exact hM; exact rfl; exact rfl; exact inferInstance; exact inferInstance; exact inferInstance; exact inferInstance; simp only [putT, List.set_cons_succ, List.set_cons_zero]) | (apply wl_st; exact rfl; exact hM; exact rfl; exact rfl; exact rfl; exact rfl; exact inferInstance; exact inferInstance; clear hM; intro ww hM; simp only [putT, List.set_cons_succ, List.set_cons_zero]) | (apply wl_sta; exact rfl; exact hM; exact rfl; exact rfl; exact rfl; exact all_oneCell_toArray One.out; exact inferInstance; exact inferInstance; exact inferInstance; clear hM; intro ww hM; simp only [putT, List.set_cons_succ, List.set_cons_zero]) | (apply wl_bs0; exact rfl; exact hM; exact rfl; exact inferInstance; clear hM; intro gg ww hM; simp only [putT, List.set_cons_succ, List.set_cons_zero]) | (apply wl_bs1a; exact rfl; exact hM; exact rfl; exact inferInstance; exact rfl; exact inferInstance; clear hM; intro gg ww hM; simp only [putT, List.set_cons_succ, List.set_cons_zero]) | (apply wl_bs11; exact rfl; exact hM; exact rfl; exact inferInstance; exact rfl; exact rfl; clear hM; intro gg ww hM; simp only [putT, List.set_cons_succ, List.set_cons_zero]) | (apply wl_conv; exact rfl; exact hM; exact rfl; exact rfl; exact inferInstance; exact inferInstance; simp only [putT, List.set_cons_succ, List.set_cons_zero])) | (rw [hor]) | (apply wl_app; exact rfl; exact hM; exact rfl; exact inferInstance; exact rfl; exact rfl; exact inferInstance; exact One.out; exact inferInstance; (unfold maxLen; omega); omega; exact rfl; exact (unhide E8); clear hM; intro A4 c4 ww hM; simp only [List.set_cons_succ, List.set_cons_zero] at hM; simp only [putT, List.set_cons_succ, List.set_cons_zero]))
          go_roundw
          case rel => exact ⟨u / 128, _, c4, _, A4, by omega, by go_num, by simp [hn], hide (by rw [← unhide HL1]; simp), hM.tail⟩
          case measure => simp [intOf]; omega
    · have e : k = m := by omega
      subst e
      have hl1 := unhide hl
      rw [List.drop_of_length_le (by omega)] at hl1
      have e2 : l' = G := by rw [← hl1]; simp [numsB]
      subst e2
      go_wp2_with (first | ((with_reducible refine wl_shape ?_); first | (apply wl_boxa; exact rfl; exact hM; exact rfl; exact rfl; clear hM; intro gg ww hM; simp only [putT, List.set_cons_succ, List.set_cons_zero]) | (apply wl_box1; exact rfl; exact hM; exact rfl; exact rfl; exact rfl; clear hM; intro gg ww hM; simp only [putT, List.set_cons_succ, List.set_cons_zero]) | (apply wl_alloc; exact rfl; exact hM; exact rfl; exact inferInstance; clear hM; intro gg ww hM; simp only [putT, List.set_cons_succ, List.set_cons_zero]) | (apply wl_ld; exact rfl; exact hM; exact rfl; exact rfl; exact inferInstance; exact inferInstance; simp only [putT, List.set_cons_succ, List.set_cons_zero]) | (apply wl_lda; exact rfl; exact hM; exact rfl; exact rfl; exact inferInstance; exact inferInstance; exact inferInstance; exact inferInstance; simp only [putT, List.set_cons_succ, List.set_cons_zero]) | (apply wl_ldr; exact rfl; exact hM; exact rfl; exact rfl; exact inferInstance; exact inferInstance; exact inferInstance; exact inferInstance; simp only [putT, List.set_cons_succ, List.set_cons_zero]) | (apply wl_st; exact rfl; exact hM; exact rfl; exact rfl; exact rfl; exact rfl; exact inferInstance; exact inferInstance; clear hM; intro ww hM; simp only [putT, List.set_cons_succ, List.set_cons_zero]) | (apply wl_sta; exact rfl; exact hM; exact rfl; exact rfl; exact rfl; exact all_oneCell_toArray One.out; exact inferInstance; exact inferInstance; exact inferInstance; clear hM; intro ww hM; simp only [putT, List.set_cons_succ, List.set_cons_zero]) | (apply wl_bs0; exact rfl; exact hM; exact rfl; exact inferInstance; clear hM; intro gg ww hM; simp only [putT, List.set_cons_succ, List.set_cons_zero]) | (apply wl_bs1a; exact rfl; exact hM; exact rfl; exact inferInstance; exact rfl; exact inferInstance; clear hM; intro gg ww hM; simp only [putT, List.set_cons_succ, List.set_cons_zero]) | (apply wl_bs11; exact rfl; exact hM; exact rfl; exact inferInstance; exact rfl; exact rfl; clear hM; intro gg ww hM; simp only [putT, List.set_cons_succ, List.set_cons_zero]) | (apply wl_conv; exact rfl; exact hM; exact rfl; exact rfl; exact inferInstance; exact inferInstance; simp only [putT, List.set_cons_succ, List.set_cons_zero])))
      go_end0
      exact ⟨⟨_, rfl⟩, A, c, by rw [hn]; exact hM⟩
set_option maxRecDepth 100000 in
set_option maxHeartbeats 4000000 in
theorem Raw_any {w0 w : World} {own : Nat → Prop} {L : List Item} {g c m d : Nat} {A B : Option Addr} {l p : List (BitVec 8)}
    (hM : Mem w0 own w (.row (.slice A l.length c) 5 1 l.length (l.map V8) :: .blk g 116 #[.slice A l.length c] :: L)) (hm : p.length = m)
    (HX : Reads w w.heap.size 1 B m (p.map V8)) (hG : l.length + m ≤ 1000000000000) :
    Calls Try.prog 85 #[.pointer (some ⟨g, 0, none⟩), .slice B m d] w fun e w' => (∃ v, e = .returned v) ∧ ∃ A' c',
      Mem w0 own w' (.row (.slice A' (l ++ p).length c') 5 1 (l ++ p).length ((l ++ p).map V8) :: .blk g 116 #[.slice A' (l ++ p).length c'] :: L) := by
  have hlen : l.length + m = (l ++ p).length := by rw [List.length_append, hm]
  have hcel : l.map V8 ++ p.map V8 = (l ++ p).map V8 := by rw [List.map_append]
  obtain ⟨G, hGe⟩ : ∃ G, G = l ++ p := ⟨_, rfl⟩
  rw [← hGe] at hlen hcel ⊢
  have HL := hide hlen
  have HC := hide hcel
  clear hlen hcel hGe
  go_enter Try.func85, Try.ntmps85
  go_wp2_with (first | ((with_reducible refine wl_shape ?_); first | (apply wl_boxa; exact rfl; exact hM; exact rfl; exact rfl; clear hM; intro gg ww hM; simp only [putT, List.set_cons_succ, List.set_cons_zero]) | (apply wl_box1; exact rfl; exact hM; exact rfl; exact rfl; exact rfl; clear hM; intro gg ww hM; simp only [putT, List.set_cons_succ, List.set_cons_zero]) | (apply wl_alloc; exact rfl; exact hM; exact rfl; exact inferInstance; clear hM; intro gg ww hM; simp only [putT, List.set_cons_succ, List.set_cons_zero]) | (apply wl_ld; exact rfl; exact hM; exact rfl; exact rfl; exact inferInstance; exact inferInstance; simp only [putT, List.set_cons_succ, List.set_cons_zero]) | (apply wl_lda; exact rfl; exact hM; exact rfl; exact rfl; exact inferInstance; exact inferInstance; exact inferInstance; exact inferInstance; simp only [putT, List.set_cons_succ, List.set_cons_zero]) | (apply wl_ldr; exact rfl; exact hM; exact rfl; exact rfl; exact inferInstance; exact inferInstance; exact inferInstance; exact inferInstance; simp only [putT, List.set_cons_succ, List.set_cons_zero]) | (apply wl_st; exact rfl; exact hM; exact rfl; exact rfl; exact rfl; exact rfl; exact inferInstance; exact inferInstance; clear hM; intro ww hM; simp only [putT, List.set_cons_succ, List.set_cons_zero]) | (apply wl_sta; exact rfl; exact hM; exact rfl; exact rfl; exact rfl; exact all_oneCell_toArray One.out; exact inferInstance; exact inferInstance; exact inferInstance; clear hM; intro ww hM; simp only [putT, List.set_cons_succ, List.set_cons_zero]) | (apply wl_bs0; exact rfl; exact hM; exact rfl; exact inferInstance; clear hM; intro gg ww hM; simp only [putT, List.set_cons_succ, List.set_cons_zero]) | (apply wl_bs1a; exact rfl; exact hM; exact rfl; exact inferInstance; exact rfl; exact inferInstance; clear hM; intro gg ww hM; simp only [putT, List.set_cons_succ, List.set_cons_zero]) | (apply wl_bs11; exact rfl; exact hM; exact rfl; exact inferInstance; exact rfl; exact rfl; clear hM; intro gg ww hM; simp only [putT, List.set_cons_succ, List.set_cons_zero]) | (apply wl_conv; exact rfl; exact hM; exact rfl; exact rfl; exact inferInstance; exact inferInstance; simp only [putT, List.set_cons_succ, List.set_cons_zero])) | (apply wl_appr; exact rfl; exact hM; exact rfl; exact inferInstance; exact rfl; exact rfl; exact HX; exact One.out; exact inferInstance; (unfold maxLen; omega); omega; exact unhide HL; exact unhide HC; clear hM; intro A4 c4 ww hM; simp only [List.set_cons_succ, List.set_cons_zero] at hM; simp only [putT, List.set_cons_succ, List.set_cons_zero]))
  go_end0
  exact ⟨⟨_, rfl⟩, A4, c4, hM⟩
end Go.Proofs.Ytkcmnhmbpamehaa
