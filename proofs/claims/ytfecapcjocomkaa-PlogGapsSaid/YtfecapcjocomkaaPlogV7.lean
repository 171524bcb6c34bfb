/- plog's laws: PlogGaps, the walk. -/
import Derived.Test.YtfecapcjocomkaaPlogV6
namespace Go.Proofs.Ytfecapcjocomkaa
open Go.RowKit Go.MapKept
set_option linter.unusedSimpArgs false
set_option linter.unusedVariables false
theorem and15 (e : Int) : ∃ q : Nat, bits .and .i64 e 15 = (q : Int) ∧ q ≤ 15 := by
  have h2 : (BitVec.ofInt 64 15).toNat = 15 := by decide
  have hle : (BitVec.ofInt 64 e &&& BitVec.ofInt 64 15).toNat ≤ 15 := by
    rw [BitVec.toNat_and, h2]
    exact Nat.and_le_right
  refine ⟨(BitVec.ofInt 64 e &&& BitVec.ofInt 64 15).toNat, ?_, hle⟩
  show IntKind.i64.wrap ((BitVec.ofInt 64 e &&& BitVec.ofInt 64 15).toNat : Int) = _
  generalize (BitVec.ofInt 64 e &&& BitVec.ofInt 64 15).toNat = q at hle ⊢
  have hw : IntKind.i64.wrap (q : Int) = (q : Int) := by
    unfold IntKind.wrap
    simp [IntKind.bits, IntKind.signed]
    omega
  exact hw
theorem row_bytes {w : World} {A : Option Addr} {c : Nat} {y : Bool} {v : Value} (h : w.ownsRow 0 5 1 (.slice A 1 c) 1 [v]) (hv : [v] = (bitv y).map V8) : Bytes w w.heap.size A 1 (bitv y) := by
  unfold Bytes
  rw [← hv]
  exact Reads.of_own h
theorem bitv_cells (y : Bool) : [Value.int .u8 (if y then 1 else 0)] = (bitv y).map V8 := by cases y <;> rfl
theorem row_cell {w : World} {t : TypeId} {g n c : Nat} {α : Type} {f : α → Value} {l : List α} (h : w.ownsRow 0 t 1 (.slice (some ⟨g, 0, none⟩) n c) n (l.map f)) (hl : l.length = n) (k : Nat) (hk : k < l.length) : w.cell? ⟨g, k, none⟩ = some (f l[k]) := by
  obtain ⟨b, off, e, _, hc⟩ := one_cell (Reads.of_own h) hl k hk
  injection e with e
  injection e with e1 e2 _
  subst e1; subst e2
  rwa [Nat.zero_add] at hc
theorem had_snoc (had : List Bool) (y : Bool) : had.map Value.bool ++ [Value.bool y] = (had ++ [y]).map Value.bool := by simp
section
variable {w0 w : World} {own : Nat → Prop} {L : List Item} {g gg : Nat} {F : Nat → Prop} {m m' : PL}
theorem Append_row (hM : Mem w0 own w L) (i j : Nat) {v : Value} {y : Bool} (hi : L[i]? = some (.res F (LogP F g m))) (hj : L[j]? = some (.row (.slice (some ⟨gg, 0, none⟩) 1 1) 5 1 1 [v])) (hij : j ≠ i) (ok : m.Ok) (hsl : m.spans.length ≤ 1000000) (hv : [v] = (bitv y).map V8) {p e t s n er : Int} (h : m.append ⟨p, e, t, s, bitv y⟩ = (m', n, er)) :
    Calls Try.prog 22 #[.pointer (some ⟨g, 0, none⟩), .agg #[.int .i64 p, .int .i64 e, .int .i64 t, .int .i64 s, .slice (some ⟨gg, 0, none⟩) 1 1]] w fun x w' => x = .returned (.tuple #[.int .i64 n, .int .i64 er]) ∧ ∃ F', Mem w0 own w' (L.set i (.res F' (LogP F' g m'))) := by
  have := Append_mem i hM hi ok hsl ⟨p, e, t, s, bitv y⟩ 1 1 (some ⟨gg, 0, none⟩) (row_bytes (hM.row j hj) hv) (Nat.le_refl _) (fun _ ad e => by
    injection e with e
    subst e
    exact hM.ne j i hj hi hij rfl)
  rw [h] at this
  exact this
end
attribute [local irreducible] wpList Code.wp GW Calls
set_option maxRecDepth 100000 in
set_option maxHeartbeats 8000000 in
theorem PlogGaps_any (w : World) (A B : Option Addr) (n c m d : Nat) (l : List Int) (bs : List Bool) (hn : n ≤ 140737488351232) (hl : l.length = n) (h : Reads w w.heap.size 1 A n (l.map (Value.int .i64))) (hm : m ≤ 140737488351232) (hbl : bs.length = m) (hb : Reads w w.heap.size 1 B m (bs.map Value.bool)) :
    Calls Try.prog 5 #[.slice A n c, .slice B m d] w fun e w' => e = .returned (.bool true) ∧ Grow w noOwn w' := by
  have hM := Mem.nil w noOwn
  by_cases h60 : n > 60
  · go_enter Try.func5, Try.ntmps5
    go_wp2
    go_ret
    exact ⟨rfl, hM.grow⟩
  by_cases hmn : m < n
  · go_enter Try.func5, Try.ntmps5
    go_wp2
    go_ret
    exact ⟨rfl, hM.grow⟩
  · go_enter Try.func5, Try.ntmps5
    go_wp2_with (first | (go_at_call 14; refine (New_mem hM).mono ?_; rintro e1 w1 ⟨g, F, rfl, hM1⟩; clear hM; have hM := hM1; clear hM1; (try simp only [List.set_cons_succ, List.set_cons_zero] at hM)) | (go_at_call 24; refine (Learn_to 0 hM rfl ok_empty gp_start).mono ?_; rintro e1 w1 ⟨rfl, F1, hM1⟩; clear hM; have hM := hM1; clear hM1; (try simp only [List.set_cons_succ, List.set_cons_zero] at hM)))
    replace hM := hM.pushNil 4 1
    have HM := hide hM
    go_loopw [6, 7, 8] (fun u1 u2 v wr => ∃ (k : Nat) (had : List Bool) (A7 : Option Addr) (c7 : Nat) (F : Nat → Prop), k ≤ n ∧ had.length ≤ 16 ∧ u1 = .int .i64 had.length ∧ u2 = .slice A7 had.length c7 ∧ v = .int .i64 k ∧ Mem w noOwn wr [.row (.slice A7 had.length c7) 4 1 had.length (had.map Value.bool), .res F (LogP F g (gp had))] ∧ (gp had).Ok) (fun _ _ v _ => n - (intOf v).toNat)
    case atStart => exact ⟨0, [], none, 0, _, by omega, by simp, rfl, rfl, rfl, hM, gp_ok0⟩
    case round =>
      obtain ⟨k, had, A7, c7, F, hk, h16, rfl, rfl, rfl, hM, ok⟩ := hrel
      by_cases hlt : k < n
      · obtain ⟨b, off, rfl, hbB, d0⟩ := one_cell h hl k (by omega)
        obtain ⟨b2, off2, rfl, hbB2, d2⟩ := one_cell hb hbl k (by omega)
        have d1 := old_no d0
        have d3 := old_no d2
        obtain ⟨e, he⟩ : ∃ e, e = l[k] := ⟨_, rfl⟩
        obtain ⟨y, hy⟩ : ∃ y, y = bs[k] := ⟨_, rfl⟩
        rw [← he] at d1
        rw [← hy] at d3
        clear he d0 hy d2
        have hkm : k < m := by omega
        obtain ⟨q, hq, hq15⟩ := and15 e
        rcases Nat.lt_trichotomy q had.length with hlt1 | heq | hgt
        · have q1 := gp_less had q y hlt1 hq15
          obtain ⟨g7, rfl, _⟩ := row_some (hM.row 0 rfl) (by omega)
          obtain ⟨z, hz⟩ : ∃ z, z = had[q] := ⟨_, rfl⟩
          rw [← hz] at q1
          have HZ := hide hz
          clear hz
          cases y <;> cases z
          all_goals
            simp only [if_true, if_false, Bool.false_eq_true, Bool.true_eq_false] at q1
            go_wp2_with (first
              | ((with_reducible refine wl_shape ?_); first | (apply wl_boxa; exact rfl; exact hM; exact rfl; exact rfl; clear hM; intro gg ww hM; simp only [putT, List.set_cons_succ, List.set_cons_zero]) | (apply wl_box1; exact rfl; exact hM; exact rfl; exact rfl; exact rfl; clear hM; intro gg ww hM; simp only [putT, List.set_cons_succ, List.set_cons_zero]) | (apply wl_alloc; exact rfl; exact hM; exact rfl; exact inferInstance; clear hM; intro gg ww hM; simp only [putT, List.set_cons_succ, List.set_cons_zero]) | (apply wl_ld; exact rfl; exact hM; exact rfl; exact rfl; exact inferInstance; exact inferInstance; simp only [putT, List.set_cons_succ, List.set_cons_zero]) | (apply wl_lda; exact rfl; exact hM; exact rfl; exact rfl; exact inferInstance; exact inferInstance; exact inferInstance; exact inferInstance; simp only [putT, List.set_cons_succ, List.set_cons_zero]) | (apply wl_ldr; exact rfl; exact hM; exact rfl; exact rfl; exact inferInstance; exact inferInstance; exact inferInstance; exact inferInstance; simp only [putT, List.set_cons_succ, List.set_cons_zero]) | (apply wl_st; exact rfl; exact hM; exact rfl; exact rfl; exact rfl; exact rfl; exact inferInstance; exact inferInstance; clear hM; intro ww hM; simp only [putT, List.set_cons_succ, List.set_cons_zero]) | (apply wl_sta; exact rfl; exact hM; exact rfl; exact rfl; exact rfl; exact all_oneCell_toArray One.out; exact inferInstance; exact inferInstance; exact inferInstance; clear hM; intro ww hM; simp only [putT, List.set_cons_succ, List.set_cons_zero]) | (apply wl_bs0; exact rfl; exact hM; exact rfl; exact inferInstance; clear hM; intro gg ww hM; simp only [putT, List.set_cons_succ, List.set_cons_zero]) | (apply wl_bs1a; exact rfl; exact hM; exact rfl; exact inferInstance; exact rfl; exact inferInstance; clear hM; intro gg ww hM; simp only [putT, List.set_cons_succ, List.set_cons_zero]) | (apply wl_bs11; exact rfl; exact hM; exact rfl; exact inferInstance; exact rfl; exact rfl; clear hM; intro gg ww hM; simp only [putT, List.set_cons_succ, List.set_cons_zero]) | (apply wl_conv; exact rfl; exact hM; exact rfl; exact rfl; exact inferInstance; exact inferInstance; simp only [putT, List.set_cons_succ, List.set_cons_zero]))
              | (rw [hq])
              | (refine wpList_store_rowcell rfl 5 _ _ rfl hM 0 gg 1 1 1 0 5 [.int .u8 0] rfl (by decide) rfl (.int .u8 1) rfl rfl (by kernel_rfl) ?_; clear hM; intro ww hM; simp only [List.set_cons_zero] at hM)
              | (go_at_call 22; refine (Append_row hM 2 0 rfl rfl (by decide) ok (gp_spans had) (by first | exact bitv_cells true | exact bitv_cells false) q1).mono ?_; rintro e1 w1 ⟨rfl, F1, hM1⟩; clear hM; have hM := hM1; clear hM1; (try simp only [List.set_cons_succ, List.set_cons_zero] at hM)))
            have dh := row_cell (hM.row 1 rfl) rfl q hlt1
            have dv := (hM.grow.keep d3.lt (fun e => e)).trans d3.cell
            rw [← unhide HZ] at dh
            go_still (by kernel_rfl)
            go_wp2
            go_roundw
            case rel => exact ⟨k + 1, had, _, c7, F1, by omega, h16, rfl, rfl, by go_num, hM.drew.tail, ok⟩
            case measure => simp [intOf]; omega
        · subst heq
          have q1 := gp_next had y ok hq15
          have okn := gp_ok1 ok y hq15
          cases y
          all_goals
            go_wp2_with (first
              | ((with_reducible refine wl_shape ?_); first | (apply wl_boxa; exact rfl; exact hM; exact rfl; exact rfl; clear hM; intro gg ww hM; simp only [putT, List.set_cons_succ, List.set_cons_zero]) | (apply wl_box1; exact rfl; exact hM; exact rfl; exact rfl; exact rfl; clear hM; intro gg ww hM; simp only [putT, List.set_cons_succ, List.set_cons_zero]) | (apply wl_alloc; exact rfl; exact hM; exact rfl; exact inferInstance; clear hM; intro gg ww hM; simp only [putT, List.set_cons_succ, List.set_cons_zero]) | (apply wl_ld; exact rfl; exact hM; exact rfl; exact rfl; exact inferInstance; exact inferInstance; simp only [putT, List.set_cons_succ, List.set_cons_zero]) | (apply wl_lda; exact rfl; exact hM; exact rfl; exact rfl; exact inferInstance; exact inferInstance; exact inferInstance; exact inferInstance; simp only [putT, List.set_cons_succ, List.set_cons_zero]) | (apply wl_ldr; exact rfl; exact hM; exact rfl; exact rfl; exact inferInstance; exact inferInstance; exact inferInstance; exact inferInstance; simp only [putT, List.set_cons_succ, List.set_cons_zero]) | (apply wl_st; exact rfl; exact hM; exact rfl; exact rfl; exact rfl; exact rfl; exact inferInstance; exact inferInstance; clear hM; intro ww hM; simp only [putT, List.set_cons_succ, List.set_cons_zero]) | (apply wl_sta; exact rfl; exact hM; exact rfl; exact rfl; exact rfl; exact all_oneCell_toArray One.out; exact inferInstance; exact inferInstance; exact inferInstance; clear hM; intro ww hM; simp only [putT, List.set_cons_succ, List.set_cons_zero]) | (apply wl_bs0; exact rfl; exact hM; exact rfl; exact inferInstance; clear hM; intro gg ww hM; simp only [putT, List.set_cons_succ, List.set_cons_zero]) | (apply wl_bs1a; exact rfl; exact hM; exact rfl; exact inferInstance; exact rfl; exact inferInstance; clear hM; intro gg ww hM; simp only [putT, List.set_cons_succ, List.set_cons_zero]) | (apply wl_bs11; exact rfl; exact hM; exact rfl; exact inferInstance; exact rfl; exact rfl; clear hM; intro gg ww hM; simp only [putT, List.set_cons_succ, List.set_cons_zero]) | (apply wl_conv; exact rfl; exact hM; exact rfl; exact rfl; exact inferInstance; exact inferInstance; simp only [putT, List.set_cons_succ, List.set_cons_zero]))
              | (rw [hq])
              | (refine wpList_store_rowcell rfl 5 _ _ rfl hM 0 gg 1 1 1 0 5 [.int .u8 0] rfl (by decide) rfl (.int .u8 1) rfl rfl (by kernel_rfl) ?_; clear hM; intro ww hM; simp only [List.set_cons_zero] at hM)
              | (go_at_call 22; refine (Append_row hM 2 0 rfl rfl (by decide) ok (gp_spans had) (by first | exact bitv_cells true | exact bitv_cells false) q1).mono ?_; rintro e1 w1 ⟨rfl, F1, hM1⟩; clear hM; have hM := hM1; clear hM1; (try simp only [List.set_cons_succ, List.set_cons_zero] at hM))
              | (apply wl_app; exact rfl; exact hM; exact rfl; exact inferInstance; exact rfl; exact rfl; exact inferInstance; exact One.out; exact inferInstance; (unfold maxLen; omega); omega; exact rfl; exact had_snoc _ _; clear hM; intro A8 c8 ww hM; simp only [List.set_cons_succ, List.set_cons_zero] at hM; simp only [putT, List.set_cons_succ, List.set_cons_zero]))
            go_roundw
            case rel => exact ⟨k + 1, _, A8, c8, F1, by omega, by simp; omega, by simp, by simp, by go_num, by (have e9 : ∀ y : Bool, (had ++ [y]).length = had.length + 1 := by simp); rw [e9]; exact (hM.sub (by simp)), okn⟩
            case measure => simp [intOf]; omega
        · have q1 := gp_more had q y ok hgt hq15
          cases y
          all_goals
            go_wp2_with (first
              | ((with_reducible refine wl_shape ?_); first | (apply wl_boxa; exact rfl; exact hM; exact rfl; exact rfl; clear hM; intro gg ww hM; simp only [putT, List.set_cons_succ, List.set_cons_zero]) | (apply wl_box1; exact rfl; exact hM; exact rfl; exact rfl; exact rfl; clear hM; intro gg ww hM; simp only [putT, List.set_cons_succ, List.set_cons_zero]) | (apply wl_alloc; exact rfl; exact hM; exact rfl; exact inferInstance; clear hM; intro gg ww hM; simp only [putT, List.set_cons_succ, List.set_cons_zero]) | (apply wl_ld; exact rfl; exact hM; exact rfl; exact rfl; exact inferInstance; exact inferInstance; simp only [putT, List.set_cons_succ, List.set_cons_zero]) | (apply wl_lda; exact rfl; exact hM; exact rfl; exact rfl; exact inferInstance; exact inferInstance; exact inferInstance; exact inferInstance; simp only [putT, List.set_cons_succ, List.set_cons_zero]) | (apply wl_ldr; exact rfl; exact hM; exact rfl; exact rfl; exact inferInstance; exact inferInstance; exact inferInstance; exact inferInstance; simp only [putT, List.set_cons_succ, List.set_cons_zero]) | (apply wl_st; exact rfl; exact hM; exact rfl; exact rfl; exact rfl; exact rfl; exact inferInstance; exact inferInstance; clear hM; intro ww hM; simp only [putT, List.set_cons_succ, List.set_cons_zero]) | (apply wl_sta; exact rfl; exact hM; exact rfl; exact rfl; exact rfl; exact all_oneCell_toArray One.out; exact inferInstance; exact inferInstance; exact inferInstance; clear hM; intro ww hM; simp only [putT, List.set_cons_succ, List.set_cons_zero]) | (apply wl_bs0; exact rfl; exact hM; exact rfl; exact inferInstance; clear hM; intro gg ww hM; simp only [putT, List.set_cons_succ, List.set_cons_zero]) | (apply wl_bs1a; exact rfl; exact hM; exact rfl; exact inferInstance; exact rfl; exact inferInstance; clear hM; intro gg ww hM; simp only [putT, List.set_cons_succ, List.set_cons_zero]) | (apply wl_bs11; exact rfl; exact hM; exact rfl; exact inferInstance; exact rfl; exact rfl; clear hM; intro gg ww hM; simp only [putT, List.set_cons_succ, List.set_cons_zero]) | (apply wl_conv; exact rfl; exact hM; exact rfl; exact rfl; exact inferInstance; exact inferInstance; simp only [putT, List.set_cons_succ, List.set_cons_zero]))
              | (rw [hq])
              | (refine wpList_store_rowcell rfl 5 _ _ rfl hM 0 gg 1 1 1 0 5 [.int .u8 0] rfl (by decide) rfl (.int .u8 1) rfl rfl (by kernel_rfl) ?_; clear hM; intro ww hM; simp only [List.set_cons_zero] at hM)
              | (go_at_call 22; refine (Append_row hM 2 0 rfl rfl (by decide) ok (gp_spans had) (by first | exact bitv_cells true | exact bitv_cells false) q1).mono ?_; rintro e1 w1 ⟨rfl, F1, hM1⟩; clear hM; have hM := hM1; clear hM1; (try simp only [List.set_cons_succ, List.set_cons_zero] at hM)))
            go_roundw
            case rel => exact ⟨k + 1, had, _, c7, F1, by omega, h16, rfl, rfl, by go_num, hM.tail, ok⟩
            case measure => simp [intOf]; omega
      · obtain rfl : k = n := by omega
        have hlen : (gp had).recs.length = had.length := gpRecs_len had
        go_wp2_with (first
          | (go_at_call 16; refine (Len_to 1 hM rfl hlen).mono ?_; rintro e1 w1 ⟨rfl, hg⟩; replace hM := hM.call hg; clear hg)
          | (go_at_call 20; refine (known_any _).mono ?_; rintro e1 w1 ⟨rfl, hg⟩; replace hM := hM.call hg; clear hg))
        go_ret
        exact ⟨rfl, hM.grow⟩
end Go.Proofs.Ytfecapcjocomkaa
