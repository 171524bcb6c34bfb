/- The statements' own helpers of chapter 2: roomy, same, stands, known. -/
import Derived.Test.YtggpchdgljhmdaaHex
namespace Go.Proofs.Ytggpchdgljhmdaa
open Go.RowKit

section
variable {P : Program} {ops : Array Oper} {rest : List Oper} {o : Oper} {a : Act} {w : World} {Q : Exit → Act → World → Prop}
/-- '[]byte(constant)': the slice's conversion to its own type marks its block. -/
theorem wpList_conv_own {w0 : World} {own : Nat → Prop} {L : List Item} (hgd : o.guard = none ∨ Region.wanted o (yielded ops a.tmps) = true) (t e : TypeId) (x : Operand) (ho : o.op = .convert t t x) (ht : P.underlying t = some (.slice e)) (he : P.underlying e = some (.int .u8))
    (hM : Mem w0 own w L) (i g n : Nat) (xs : List Value) (hi : L[i]? = some (.row (.slice (some ⟨g, 0, none⟩) n n) e 1 n xs)) (hn : 0 < n) (hx : a.eval x = .slice (some ⟨g, 0, none⟩) n n)
    (h : ∀ w', Mem w0 own w' (L.set i (.obj g (fun o => o = .cells xs.toArray e (n, n + 1)))) → wpList P ops Q rest (a.put o.dst (.slice (some ⟨g, 0, none⟩) n n)) w') : wpList P ops Q (o :: rest) a w := by
  have hwant : Region.wanted o (yielded ops a.tmps) = true := by
    rcases hgd with hg | hg
    · simp [Region.wanted, hg]
    · exact hg
  refine wpList_step (fun K hK => ?_)
  rw [if_pos hwant]
  obtain ⟨g', cur, e1, hb, hs, htk⟩ := row_blk (hM.row i hi) hn
  injection e1 with e1
  injection e1 with e1
  subst e1
  have hcur : cur = xs.toArray := by
    rw [← htk, List.take_of_length_le (by simp; omega)]
  have hcs : cur.size = n := by omega
  have hshape : w.shape? g = some (e, cur.size) := by unfold World.shape?; unfold Blk at hb; rw [hb]
  have hlt := hb.lt
  have hw' : (w.freeze ⟨g, n, none⟩ 1).heap[g]? = some (.cells xs.toArray e (n, n + 1)) := by
    unfold Blk at hb
    simp [World.freeze, Array.getElem?_modify, hb, hcur]
  have hoth : ∀ k, k ≠ g → (w.freeze ⟨g, n, none⟩ 1).heap[k]? = w.heap[k]? := by
    intro k hk
    simp [World.freeze, Array.getElem?_modify, Ne.symm hk]
  have hrun : (convert t t (.slice (some ⟨g, 0, none⟩) n n)).run P w = .ok (.slice (some ⟨g, 0, none⟩) n n) (w.freeze ⟨g, n, none⟩ 1) := by
    simp [convert, run_underlying ht, run_underlying he, markStringish, hshape, hcs]
  unfold Oper.wp execOp
  simp only [ho, hx, Sem.run_bind, Sem.run_pure, Result.andThen_ok, hrun]
  refine hK _ _ (h _ (hM.upd i hi ⟨hM.grow.os, hM.grow.tape, hM.grow.output, by simpa [World.freeze] using hM.grow.size, fun k hk hn => ?_⟩ (fun k hk hne => hoth k (fun e => hne (by rw [e]; rfl))) ⟨_, hw', rfl⟩ (fun g' e => .inl e)))
  refine (hoth k (fun e => ?_)).trans (hM.grow.block k hk hn)
  subst e
  rcases hM.own_ i hi rfl with ho | ho
  · exact hn ho
  · have ho' : w0.heap.size ≤ k := ho
    omega
theorem obj_bytes {w0 : World} {own : Nat → Prop} {L : List Item} (hM : Mem w0 own w L) (i g n : Nat) (e : TypeId) (fr : Nat × Nat) (l : List (BitVec 8)) (hi : L[i]? = some (.obj g (fun o => o = .cells (l.map V8).toArray e fr))) (hl : l.length = n) :
    Bytes w w.heap.size (some ⟨g, 0, none⟩) n l := by
  obtain ⟨o, ho, rfl⟩ := hM.at_ i hi
  have hlt : g < w.heap.size := (Array.getElem?_eq_some_iff.1 ho).1
  refine ⟨by simp [hl], fun _ => ⟨_, rfl, hlt, fun j u hu => ?_⟩⟩
  have : (⟨g, 0, none⟩ : Addr).add j = ⟨g, j, none⟩ := by unfold Addr.add; split <;> simp_all
  rw [this]
  simp only [World.cell?, ho]
  simpa using hu
end

section
variable {P : Program} {ops : Array Oper} {rest : List Oper} {o : Oper} {a : Act} {w : World} {Q : Exit → Act → World → Prop}
/-- A guarded operation whose guard is true. -/
theorem wpList_strip (hw : Region.wanted o (yielded ops a.tmps) = true) (h : wpList P ops Q ({ o with guard := none } :: rest) a w) : wpList P ops Q (o :: rest) a w := by
  unfold wpList at h ⊢
  rw [if_pos hw]
  rw [if_pos (by simp [Region.wanted])] at h
  exact h
end

def RoomyPost (w : World) (n : Nat) (l : List (BitVec 8)) (e : Ending) (w' : World) : Prop :=
  ∃ A c, e = .returned (.slice A (n + 1) c) ∧ Bytes w' w'.heap.size A (n + 1) (l ++ [171]) ∧ n + 1 ≤ c ∧ Grow w noOwn w'

set_option maxRecDepth 100000 in
theorem roomy_any (w : World) (n c : Nat) (A : Option Addr) (l : List (BitVec 8)) (hb : Bytes w w.heap.size A n l) (hn2 : n ≤ 140737488340000) :
    Calls Try.prog 14 #[.slice A n c] w (RoomyPost w n l) := by
  have hM := Mem.nil w noOwn
  have tok1 : True := trivial
  go_enter Try.func14, Try.ntmps14
  go_wp2_with (first
    | (refine wpList_buildSlice_row rfl 22 0 _ rfl hM 5 Try.underlying22 _ 1 1 u8row (by decide) (by decide) [] (by kernel_rfl) rfl ?_; clear hM; intro g3 w3 hM)
    | (refine wpList_append_row rfl (.tmp 3) (.tmp 4) 22 rfl hM 0 _ 5 1 0 [] rfl rfl Try.underlying22 _ 1 u8row rfl (by decide) w.heap.size A n c (l.map V8) rfl (hM.reads hb (Nat.le_refl _) (fun _ _ e => e)) (one8 _) (by simp only [maxLen]; omega) (by omega) n (Nat.zero_add _) (l.map V8) rfl ?_; clear hM; intro A5 c5 w5 hM)
    | (have _t := tok1; refine wpList_buildSlice_row rfl 22 1 _ rfl hM 5 Try.underlying22 _ 1 1 u8row (by decide) (by decide) ([171].map V8) (by kernel_rfl) rfl ?_; clear hM tok1; intro g6 w6 hM)
    | (refine wpList_append_row rfl (.tmp 5) (.tmp 6) 22 rfl hM 1 _ 5 1 n (l.map V8) rfl rfl Try.underlying22 _ 1 u8row rfl (by decide) _ _ 1 1 ([171].map V8) rfl (Reads.of_own (hM.row 0 rfl)) (one8 _) (by simp only [maxLen]; omega) (by omega) (n + 1) rfl ((l ++ [171]).map V8) (List.map_append).symm ?_; clear hM; intro A7 c7 w7 hM; replace hM := hM.tail)
    | (refine wpList_buildSlice_row rfl 22 1 _ rfl hM 5 Try.underlying22 _ 1 1 u8row (by decide) (by decide) ([171].map V8) (by kernel_rfl) rfl ?_; clear hM; intro g8 w8 hM)
    | (refine wpList_append_row rfl (.tmp 7) (.tmp 8) 22 rfl hM 1 _ 5 1 (n + 1) ((l ++ [171]).map V8) rfl rfl Try.underlying22 _ 1 u8row rfl (by decide) _ _ 1 1 ([171].map V8) rfl (Reads.of_own (hM.row 0 rfl)) (one8 _) (by simp only [maxLen]; omega) (by omega) (n + 2) rfl ((l ++ [171] ++ [171]).map V8) (List.map_append).symm ?_; clear hM; intro A9 c9 w9 hM; replace hM := hM.tail; have hcap := (row_cap (hM.row 0 rfl)).1))
  go_ret
  have hr := Bytes.take (show Bytes w9 w9.heap.size A9 (n + 2) (l ++ [171] ++ [171]) from Reads.of_own (hM.row 0 rfl)) (show n + 1 ≤ n + 2 by omega)
  rw [List.take_left' (by rw [List.length_append, Bytes.len hb]; rfl)] at hr
  exact ⟨A9, c9, rfl, hr, by omega, hM.grow⟩

theorem beq_of_getD (la lb : List (BitVec 8)) (hl : la.length = lb.length) (h : ∀ i, i < la.length → la.getD i 0 = lb.getD i 0) : (la == lb) = true := by
  rw [beq_iff_eq]
  apply List.ext_getElem hl
  intro i h1 h2
  have := h i h1
  simpa [List.getElem?_eq_getElem h1, List.getElem?_eq_getElem h2] using this
theorem bne_of_getD (la lb : List (BitVec 8)) (i : Nat) (h : la.getD i 0 ≠ lb.getD i 0) : (la == lb) = false := by
  rw [beq_eq_false_iff_ne]; intro e; exact h (by rw [e])

set_option maxRecDepth 100000 in
theorem same_any (w : World) (n c m d : Nat) (A B : Option Addr) (la lb : List (BitVec 8)) (ha : Bytes w w.heap.size A n la) (hb : Bytes w w.heap.size B m lb) (hn2 : n ≤ 140737488355328) :
    Calls Try.prog 41 #[.slice A n c, .slice B m d] w fun e w' => e = .returned (.bool (la == lb)) ∧ ∃ k, w' = w.drewN k := by
  have hla := ha.len
  have hlb := hb.len
  by_cases hnm : n = m
  · subst hnm
    have HLA := hide hla
    have HLB := hide hlb
    clear hla hlb
    go_enter Try.func41, Try.ntmps41
    go_wp2_with fail
    go_loopw [5] (fun iv wr => ∃ i k : Nat, i ≤ n ∧ iv = .int .i64 i ∧ wr = w.drewN k ∧ (∀ j, j < i → la.getD j 0 = lb.getD j 0)) (fun iv _ => n - (intOf iv).toNat)
    case atStart => exact ⟨0, 0, by omega, rfl, rfl, fun j hj => by omega⟩
    case round =>
      obtain ⟨i, k, hin, rfl, rfl, heq⟩ := hrel
      have HEQ := hide heq
      clear heq
      by_cases hlt : i < n
      · obtain ⟨b1, o1, rfl, _, hc1⟩ := ha.form (by omega)
        obtain ⟨b2, o2, rfl, _, hc2⟩ := hb.form (by omega)
        have c1 := hc1 i hlt
        have c2 := hc2 i hlt
        clear hc1 hc2
        by_cases hx : la.getD i 0 = lb.getD i 0
        · have hx2 : (la.getD i 0 != lb.getD i 0) = false := by rw [hx]; simp
          obtain ⟨x, hxx⟩ : ∃ x, x = la.getD i 0 := ⟨_, rfl⟩
          obtain ⟨y, hyy⟩ : ∃ y, y = lb.getD i 0 := ⟨_, rfl⟩
          rw [← hxx] at c1 hx2
          rw [← hyy] at c2 hx2
          have HX := hide hx
          clear hx hxx hyy
          go_wp2_with fail
          go_quiet (fail)
          go_wp2_with fail
          go_roundw
          case rel => exact ⟨i + 1, _, by omega, by go_num, rfl, fun j hj => by
            rcases Nat.lt_or_ge j i with h | h
            · exact unhide HEQ j h
            · rw [show j = i by omega]; exact unhide HX⟩
          case measure => simp [intOf]; omega
        · have hx2 : (la.getD i 0 != lb.getD i 0) = true := by simpa using hx
          have hf := hide (bne_of_getD la lb i hx)
          obtain ⟨x, hxx⟩ : ∃ x, x = la.getD i 0 := ⟨_, rfl⟩
          obtain ⟨y, hyy⟩ : ∃ y, y = lb.getD i 0 := ⟨_, rfl⟩
          rw [← hxx] at c1 hx2
          rw [← hyy] at c2 hx2
          clear hx hxx hyy
          go_wp2_with fail
          go_quiet (fail)
          go_wp2_with fail
          go_ret
          exact ⟨by rw [unhide hf]; rfl, _, World.drewN_drewN ..⟩
      · obtain rfl : i = n := by omega
        have hf := hide (beq_of_getD la lb (by rw [unhide HLA, unhide HLB]) (by rw [unhide HLA]; exact unhide HEQ))
        go_wp2_with fail
        go_ret
        exact ⟨by rw [unhide hf]; rfl, _, rfl⟩
  · have hf : (la == lb) = false := by
      rw [beq_eq_false_iff_ne]; intro e; rw [e] at hla; omega
    have HF := hide hf
    have hne : ((n : Int) != (m : Int)) = true := by rw [bne_iff_ne]; omega
    clear hf hla hlb
    go_enter Try.func41, Try.ntmps41
    go_wp2_with fail
    go_ret
    exact ⟨by rw [unhide HF]; rfl, 0, rfl⟩

set_option maxRecDepth 100000 in
theorem stands_any (w : World) (n c d : Nat) (A B : Option Addr) (l : List (BitVec 8)) (ha : Bytes w w.heap.size A (n + 1) (l ++ [171])) (hac : n + 1 ≤ c) (hb : Bytes w w.heap.size B n l) (hn2 : n ≤ 140737488340000) :
    Calls Try.prog 17 #[.slice A (n + 1) c, .slice B n d] w fun e w' => e = .returned (.bool true) ∧ ∃ k, w' = w.drewN k := by
  obtain ⟨b1, o1, rfl, _, hc1⟩ := ha.form (by omega)
  have c1 := hc1 n (by omega)
  have hl := hb.len
  have hg : (l ++ [171]).getD n 0 = 171 := by rw [← hl]; simp [List.getD_eq_getElem?_getD]
  rw [hg] at c1
  have ht := ha.take (show n ≤ n + 1 by omega)
  rw [List.take_left' hl] at ht
  have H := hide (fun cc => same_any w n cc n d _ _ l l ht hb (by omega))
  clear hc1 hg hl ht
  go_enter Try.func17, Try.ntmps17
  go_wp2_with (go_at_call 41; refine ((unhide H) _).mono ?_; rintro e w1 ⟨rfl, k, rfl⟩)
  go_ret
  exact ⟨rfl, k, rfl⟩

def abcB : List (BitVec 8) := [97, 98, 99]
def keyB : List (BitVec 8) := [107, 101, 121]
def foxB : List (BitVec 8) := [84, 104, 101, 32, 113, 117, 105, 99, 107, 32, 98, 114, 111, 119, 110, 32, 102, 111, 120, 32, 106, 117, 109, 112, 115, 32, 111, 118, 101, 114, 32, 116, 104, 101, 32, 108, 97, 122, 121, 32, 100, 111, 103]
set_option maxRecDepth 100000 in
theorem known_abc : ((strOf (hexl (sha abcB))).toList == [98, 97, 55, 56, 49, 54, 98, 102, 56, 102, 48, 49, 99, 102, 101, 97, 52, 49, 52, 49, 52, 48, 100, 101, 53, 100, 97, 101, 50, 50, 50, 51, 98, 48, 48, 51, 54, 49, 97, 51, 57, 54, 49, 55, 55, 97, 57, 99, 98, 52, 49, 48, 102, 102, 54, 49, 102, 50, 48, 48, 49, 53, 97, 100]) = true := by rw [ByteArray.toList_eq]; decide +kernel
set_option maxRecDepth 100000 in
theorem known_fox : ((strOf (hexl (mac keyB foxB))).toList == [102, 55, 98, 99, 56, 51, 102, 52, 51, 48, 53, 51, 56, 52, 50, 52, 98, 49, 51, 50, 57, 56, 101, 54, 97, 97, 54, 102, 98, 49, 52, 51, 101, 102, 52, 100, 53, 57, 97, 49, 52, 57, 52, 54, 49, 55, 53, 57, 57, 55, 52, 55, 57, 100, 98, 99, 50, 100, 49, 97, 51, 99, 100, 56]) = true := by rw [ByteArray.toList_eq]; decide +kernel

set_option maxRecDepth 100000 in
set_option maxHeartbeats 1000000 in
theorem known_any (w : World) : Calls Try.prog 18 #[] w fun e w' => e = .returned (.bool true) ∧ Grow w noOwn w' := by
  have hM := Mem.nil w noOwn
  have tok1 : True := trivial
  have tok2 : True := trivial
  have tok3 : True := trivial
  have tok4 : True := trivial
  have tok5 : True := trivial
  have tok6 : True := trivial
  have tok7 : True := trivial
  have k1 := known_abc
  have k2 := known_fox
  go_enter Try.func18, Try.ntmps18
  go_wp2_with (first
    | (have _t := tok1; refine wpList_buildSlice_row rfl 22 3 _ rfl hM 5 Try.underlying22 _ 1 1 u8row (by decide) (by decide) (abcB.map V8) (by kernel_rfl) rfl ?_; clear hM tok1; intro g1 w1 hM)
    | (have _t := tok2; refine wpList_conv_own (.inl rfl) 22 5 _ rfl Try.underlying22 Try.underlying5 hM 0 g1 3 _ rfl (by decide) rfl ?_; clear hM tok2; intro w2 hM)
    | (go_at_call 15; refine (Sum_any _ 3 3 _ abcB (obj_bytes hM 0 g1 3 _ _ abcB rfl rfl) (by omega) (by omega)).mono ?_; rintro e1 w3 ⟨rfl, hg⟩; replace hM := hM.call hg; clear hg)
    | (have _t := tok3; go_at_call 23; refine (Hex_any _ (sha abcB) (sha_length _)).mono ?_; clear tok3; rintro e1 w4 ⟨rfl, hg⟩; replace hM := hM.call hg; clear hg)
    | (have _t := tok4; refine wpList_strip (by rfl) ?_; refine wpList_buildSlice_row rfl 22 3 _ rfl hM 5 Try.underlying22 _ 1 1 u8row (by decide) (by decide) (keyB.map V8) (by kernel_rfl) rfl ?_; clear hM tok4; intro g7 w5 hM)
    | (have _t := tok5; refine wpList_strip (by rfl) ?_; refine wpList_conv_own (.inl rfl) 22 5 _ rfl Try.underlying22 Try.underlying5 hM 0 g7 3 _ rfl (by decide) rfl ?_; clear hM tok5; intro w6 hM)
    | (have _t := tok6; refine wpList_strip (by rfl) ?_; refine wpList_buildSlice_row rfl 22 43 _ rfl hM 5 Try.underlying22 _ 1 1 u8row (by decide) (by decide) (foxB.map V8) (by kernel_rfl) rfl ?_; clear hM tok6; intro g9 w7 hM)
    | (have _t := tok7; refine wpList_strip (by rfl) ?_; refine wpList_conv_own (.inl rfl) 22 5 _ rfl Try.underlying22 Try.underlying5 hM 0 g9 43 _ rfl (by decide) rfl ?_; clear hM tok7; intro w8 hM)
    | (go_at_call 19; refine (Mac_any _ 3 3 43 43 _ _ keyB foxB (obj_bytes hM 1 g7 3 _ _ keyB rfl rfl) (by omega) (by omega) (obj_bytes hM 0 g9 43 _ _ foxB rfl rfl) (by omega)).mono ?_; rintro e1 w9 ⟨rfl, hg⟩; replace hM := hM.call hg; clear hg)
    | (go_at_call 23; refine (Hex_any _ (mac keyB foxB) (sha_length _)).mono ?_; rintro e1 w10 ⟨rfl, hg⟩; replace hM := hM.call hg; clear hg))
  go_ret
  exact ⟨rfl, hM.grow⟩
end Go.Proofs.Ytggpchdgljhmdaa
