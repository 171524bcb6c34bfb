/- hold's law: HoldTexts. -/
import Derived.Test.YtnmnknjgibkkaaaHold1S
import Derived.Test.YtnmnknjgibkkaaaHold2
import Derived.Test.YtnmnknjgibkkaaaHolP
namespace Go.Proofs.Ytnmnknjgibkkaaa
open Go.RowKit Go.MapKept
set_option linter.unusedSimpArgs false
set_option linter.unusedVariables false
/-- The first q keys, with their texts. -/
def pzT (ks : List Int) (ts : List ByteArray) (q : Nat) : List (Int × Value) := ((ks.zip ts).take q).map fun p => (p.1, Value.string p.2)
theorem pzT_succ {ks : List Int} {ts : List ByteArray} {q : Nat} (h1 : q < ks.length) (h2 : q < ts.length) : pzT ks ts (q + 1) = pzT ks ts q ++ [(ks[q], Value.string ts[q])] := by
  unfold pzT
  rw [List.take_succ_eq_append_getElem (by simp; omega), List.map_append]
  simp
theorem pzT_mem {ks : List Int} {ts : List ByteArray} {n q : Nat} (h1 : q < ks.length) (h2 : q < ts.length) (hn : q < n) : (ks[q], Value.string ts[q]) ∈ pzT ks ts n := by
  unfold pzT
  refine List.mem_map.2 ⟨(ks[q], ts[q]), ?_, rfl⟩
  refine List.mem_iff_getElem.2 ⟨q, by simp; omega, ?_⟩
  simp
theorem pzT_str {ks : List Int} {ts : List ByteArray} {n : Nat} {p : Int × Value} (h : p ∈ pzT ks ts n) : ∃ s, p.2 = .string s := by
  obtain ⟨q, _, rfl⟩ := List.mem_map.1 h
  exact ⟨_, rfl⟩
attribute [local irreducible] wpList Code.wp GW Calls
set_option maxRecDepth 100000 in
set_option maxHeartbeats 8000000 in
theorem HoldTexts_any (w : World) (n c m d : Nat) (A B : Option Addr) (ks : List Int) (ts : List ByteArray) (hA : Reads w w.heap.size 1 A n (ks.map (Value.int .i64))) (hn : ks.length = n) (hc : n ≤ c) (hB : Reads w w.heap.size 1 B m (ts.map Value.string)) (hm : ts.length = m) (hd : m ≤ d) :
    Calls Try.prog 3 #[.slice A n c, .slice B m d] w fun e w' => e = .returned (.bool true) ∧ Grow w noOwn w' := by
  have hM := Mem.nil w noOwn
  by_cases hin : n ≤ 60 ∧ n ≤ m
  · obtain ⟨hn60, hnm⟩ := hin
    go_enter Try.func3, Try.ntmps3
    go_wp2_with (first
      | ((with_reducible refine wl_shape ?_); first | (apply wl_boxa; exact rfl; exact hM; exact rfl; exact rfl; clear hM; intro gg ww hM; simp only [putT, List.set_cons_succ, List.set_cons_zero]) | (apply wl_box1; exact rfl; exact hM; exact rfl; exact rfl; exact rfl; clear hM; intro gg ww hM; simp only [putT, List.set_cons_succ, List.set_cons_zero]) | (apply wl_alloc; exact rfl; exact hM; exact rfl; exact inferInstance; clear hM; intro gg ww hM; simp only [putT, List.set_cons_succ, List.set_cons_zero]) | (apply wl_ld; exact rfl; exact hM; exact rfl; exact rfl; exact inferInstance; exact inferInstance; simp only [putT, List.set_cons_succ, List.set_cons_zero]) | (apply wl_lda; exact rfl; exact hM; exact rfl; exact rfl; exact inferInstance; exact inferInstance; exact inferInstance; exact inferInstance; simp only [putT, List.set_cons_succ, List.set_cons_zero]) | (apply wl_ldr; exact rfl; exact hM; exact rfl; exact rfl; exact inferInstance; exact inferInstance; exact inferInstance; exact inferInstance; simp only [putT, List.set_cons_succ, List.set_cons_zero]) | (apply wl_st; exact rfl; exact hM; exact rfl; exact rfl; exact rfl; exact rfl; exact inferInstance; exact inferInstance; clear hM; intro ww hM; simp only [putT, List.set_cons_succ, List.set_cons_zero]) | (apply wl_sta; exact rfl; exact hM; exact rfl; exact rfl; exact rfl; exact all_oneCell_toArray One.out; exact inferInstance; exact inferInstance; exact inferInstance; clear hM; intro ww hM; simp only [putT, List.set_cons_succ, List.set_cons_zero]) | (apply wl_bs0; exact rfl; exact hM; exact rfl; exact inferInstance; clear hM; intro gg ww hM; simp only [putT, List.set_cons_succ, List.set_cons_zero]) | (apply wl_bs1a; exact rfl; exact hM; exact rfl; exact inferInstance; exact rfl; exact inferInstance; clear hM; intro gg ww hM; simp only [putT, List.set_cons_succ, List.set_cons_zero]) | (apply wl_bs11; exact rfl; exact hM; exact rfl; exact inferInstance; exact rfl; exact rfl; clear hM; intro gg ww hM; simp only [putT, List.set_cons_succ, List.set_cons_zero]) | (apply wl_conv; exact rfl; exact hM; exact rfl; exact rfl; exact inferInstance; exact inferInstance; simp only [putT, List.set_cons_succ, List.set_cons_zero]))
      | (go_at_call 10; refine (New_str hM).mono ?_; rintro e1 w1 ⟨b, g, rfl, hM1⟩; clear hM; have hM := hM1; clear hM1; (try simp only [List.cons_append, List.nil_append, List.set_cons_succ, List.set_cons_zero] at hM))
      | (refine wpList_makeMap_mem rfl 26 rfl hM ?_; clear hM; intro gm wm hM; change Mem _ _ _ (Item.obj gm (IsMap (tget (tbOf (pzT ks ts 0)))) :: .blk b 65 #[.map (some g)] :: .obj g (IsMap (tget (tbOf (pzT ks ts 0)))) :: _) at hM))
    have HM := hide hM
    go_loopw [7] (fun iv wr => ∃ q : Nat, q ≤ n ∧ iv = .int .i64 q ∧ Mem w noOwn wr [.obj gm (IsMap (tget (tbOf (pzT ks ts q)))), .blk b 65 #[.map (some g)], .obj g (IsMap (tget (tbOf (pzT ks ts q))))]) (fun iv _ => n - (intOf iv).toNat)
    case atStart => exact ⟨0, Nat.zero_le _, by go_num, hM⟩
    case round =>
      clear hM HM
      obtain ⟨q, hq, rfl, hM⟩ := hrel
      by_cases hlt : q < n
      · obtain ⟨bk, ok, rfl, hbk, hck⟩ := one_cell hA hn q (by omega)
        obtain ⟨bt, ot, rfl, hbt, hct⟩ := one_cell hB hm q (by omega)
        have hsucc := pzT_succ (ks := ks) (ts := ts) (q := q) (by omega) (by omega)
        obtain ⟨k, hk⟩ : ∃ k, k = ks[q] := ⟨_, rfl⟩
        obtain ⟨s, hs⟩ : ∃ s, s = ts[q] := ⟨_, rfl⟩
        rw [← hk] at hck hsucc
        rw [← hs] at hct hsucc
        have hsn := tbOf_snoc (pzT ks ts q) (k, Value.string s)
        rw [← hsucc] at hsn
        have HSN := hide hsn
        have k1 : Old w noOwn ⟨bk, ok + q, none⟩ (.int .i64 k) := old_no hck
        have t1 : Old w noOwn ⟨bt, ot + q, none⟩ (.string s) := old_no hct
        clear hck hct hsucc hk hs hsn
        by_cases hs : 100 < s.size
        · go_wp2_with (first | ((with_reducible refine wl_shape ?_); first | (apply wl_boxa; exact rfl; exact hM; exact rfl; exact rfl; clear hM; intro gg ww hM; simp only [putT, List.set_cons_succ, List.set_cons_zero]) | (apply wl_box1; exact rfl; exact hM; exact rfl; exact rfl; exact rfl; clear hM; intro gg ww hM; simp only [putT, List.set_cons_succ, List.set_cons_zero]) | (apply wl_alloc; exact rfl; exact hM; exact rfl; exact inferInstance; clear hM; intro gg ww hM; simp only [putT, List.set_cons_succ, List.set_cons_zero]) | (apply wl_ld; exact rfl; exact hM; exact rfl; exact rfl; exact inferInstance; exact inferInstance; simp only [putT, List.set_cons_succ, List.set_cons_zero]) | (apply wl_lda; exact rfl; exact hM; exact rfl; exact rfl; exact inferInstance; exact inferInstance; exact inferInstance; exact inferInstance; simp only [putT, List.set_cons_succ, List.set_cons_zero]) | (apply wl_ldr; exact rfl; exact hM; exact rfl; exact rfl; exact inferInstance; exact inferInstance; exact inferInstance; exact inferInstance; simp only [putT, List.set_cons_succ, List.set_cons_zero]) | (apply wl_st; exact rfl; exact hM; exact rfl; exact rfl; exact rfl; exact rfl; exact inferInstance; exact inferInstance; clear hM; intro ww hM; simp only [putT, List.set_cons_succ, List.set_cons_zero]) | (apply wl_sta; exact rfl; exact hM; exact rfl; exact rfl; exact rfl; exact all_oneCell_toArray One.out; exact inferInstance; exact inferInstance; exact inferInstance; clear hM; intro ww hM; simp only [putT, List.set_cons_succ, List.set_cons_zero]) | (apply wl_bs0; exact rfl; exact hM; exact rfl; exact inferInstance; clear hM; intro gg ww hM; simp only [putT, List.set_cons_succ, List.set_cons_zero]) | (apply wl_bs1a; exact rfl; exact hM; exact rfl; exact inferInstance; exact rfl; exact inferInstance; clear hM; intro gg ww hM; simp only [putT, List.set_cons_succ, List.set_cons_zero]) | (apply wl_bs11; exact rfl; exact hM; exact rfl; exact inferInstance; exact rfl; exact rfl; clear hM; intro gg ww hM; simp only [putT, List.set_cons_succ, List.set_cons_zero]) | (apply wl_conv; exact rfl; exact hM; exact rfl; exact rfl; exact inferInstance; exact inferInstance; simp only [putT, List.set_cons_succ, List.set_cons_zero])))
          go_ret
          exact ⟨rfl, hM.grow⟩
        · go_wp2_with (first | ((with_reducible refine wl_shape ?_); first | (apply wl_boxa; exact rfl; exact hM; exact rfl; exact rfl; clear hM; intro gg ww hM; simp only [putT, List.set_cons_succ, List.set_cons_zero]) | (apply wl_box1; exact rfl; exact hM; exact rfl; exact rfl; exact rfl; clear hM; intro gg ww hM; simp only [putT, List.set_cons_succ, List.set_cons_zero]) | (apply wl_alloc; exact rfl; exact hM; exact rfl; exact inferInstance; clear hM; intro gg ww hM; simp only [putT, List.set_cons_succ, List.set_cons_zero]) | (apply wl_ld; exact rfl; exact hM; exact rfl; exact rfl; exact inferInstance; exact inferInstance; simp only [putT, List.set_cons_succ, List.set_cons_zero]) | (apply wl_lda; exact rfl; exact hM; exact rfl; exact rfl; exact inferInstance; exact inferInstance; exact inferInstance; exact inferInstance; simp only [putT, List.set_cons_succ, List.set_cons_zero]) | (apply wl_ldr; exact rfl; exact hM; exact rfl; exact rfl; exact inferInstance; exact inferInstance; exact inferInstance; exact inferInstance; simp only [putT, List.set_cons_succ, List.set_cons_zero]) | (apply wl_st; exact rfl; exact hM; exact rfl; exact rfl; exact rfl; exact rfl; exact inferInstance; exact inferInstance; clear hM; intro ww hM; simp only [putT, List.set_cons_succ, List.set_cons_zero]) | (apply wl_sta; exact rfl; exact hM; exact rfl; exact rfl; exact rfl; exact all_oneCell_toArray One.out; exact inferInstance; exact inferInstance; exact inferInstance; clear hM; intro ww hM; simp only [putT, List.set_cons_succ, List.set_cons_zero]) | (apply wl_bs0; exact rfl; exact hM; exact rfl; exact inferInstance; clear hM; intro gg ww hM; simp only [putT, List.set_cons_succ, List.set_cons_zero]) | (apply wl_bs1a; exact rfl; exact hM; exact rfl; exact inferInstance; exact rfl; exact inferInstance; clear hM; intro gg ww hM; simp only [putT, List.set_cons_succ, List.set_cons_zero]) | (apply wl_bs11; exact rfl; exact hM; exact rfl; exact inferInstance; exact rfl; exact rfl; clear hM; intro gg ww hM; simp only [putT, List.set_cons_succ, List.set_cons_zero]) | (apply wl_conv; exact rfl; exact hM; exact rfl; exact rfl; exact inferInstance; exact inferInstance; simp only [putT, List.set_cons_succ, List.set_cons_zero])))
          have d0 : _ = some (Value.int .i64 k) := (inferInstance : Cell w noOwn _ ⟨bk, ok + q, none⟩ (.int .i64 k)).out _ hM
          have hqm : q < m := by omega
          have d1 : _ = some (Value.string s) := (inferInstance : Cell w noOwn _ ⟨bt, ot + q, none⟩ (.string s)).out _ hM
          go_still_tail 9, (by kernel_rfl)
          clear d0 d1
          replace hM := hM.drew
          go_wp2_with (go_at_call 11; refine (Set_str hM k (.string s) (b := b) (g := g) inferInstance inferInstance).mono ?_; rintro e1 w1 ⟨⟨r1, rfl⟩, hM1⟩; clear hM; have hM := hM1; clear hM1; (try simp only [List.cons_append, List.nil_append, List.set_cons_succ, List.set_cons_zero] at hM))
          have d0 : _ = some (Value.int .i64 k) := (inferInstance : Cell w noOwn _ ⟨bk, ok + q, none⟩ (.int .i64 k)).out _ hM
          have d1 : _ = some (Value.string s) := (inferInstance : Cell w noOwn _ ⟨bt, ot + q, none⟩ (.string s)).out _ hM
          go_still_tail 9, (by kernel_rfl)
          clear d0 d1 hqm
          replace hM := hM.drew
          go_wp2_with (first | (apply wl_tset; exact rfl; exact hM; exact rfl; exact rfl; exact rfl; exact rfl; exact inferInstance; exact inferInstance; clear hM; intro ww hM; simp only [putT, List.set_cons_succ, List.set_cons_zero]))
          rw [← unhide HSN] at hM
          go_roundw
          case rel => exact ⟨q + 1, by omega, by go_num, hM⟩
          case measure => simp [intOf]; omega
      · have e : q = n := by omega
        subst e
        have hri := tbOf_rise (pzT ks ts q)
        have hget : ∀ (i : Nat) (hi : i < ks.length) (hi2 : i < ts.length), i < q → ∃ s, tget (tbOf (pzT ks ts q)) ks[i] = some (.string s) := by
          intro i hi hi2 hiq
          obtain ⟨v, hv⟩ := tbOf_get (pzT ks ts q) _ (pzT_mem hi hi2 hiq)
          obtain ⟨s, hs⟩ := pzT_str (tbOf_mem _ _ (tget_some hv))
          simp only at hv hs
          rw [hs] at hv
          exact ⟨s, hv⟩
        obtain ⟨tb, htb⟩ : ∃ tb, tb = tbOf (pzT ks ts q) := ⟨_, rfl⟩
        rw [← htb] at hM hri hget
        have HRI := hide hri
        have HGET := hide hget
        clear htb hri hget
        go_wp2_with (first | ((with_reducible refine wl_shape ?_); first | (apply wl_boxa; exact rfl; exact hM; exact rfl; exact rfl; clear hM; intro gg ww hM; simp only [putT, List.set_cons_succ, List.set_cons_zero]) | (apply wl_box1; exact rfl; exact hM; exact rfl; exact rfl; exact rfl; clear hM; intro gg ww hM; simp only [putT, List.set_cons_succ, List.set_cons_zero]) | (apply wl_alloc; exact rfl; exact hM; exact rfl; exact inferInstance; clear hM; intro gg ww hM; simp only [putT, List.set_cons_succ, List.set_cons_zero]) | (apply wl_ld; exact rfl; exact hM; exact rfl; exact rfl; exact inferInstance; exact inferInstance; simp only [putT, List.set_cons_succ, List.set_cons_zero]) | (apply wl_lda; exact rfl; exact hM; exact rfl; exact rfl; exact inferInstance; exact inferInstance; exact inferInstance; exact inferInstance; simp only [putT, List.set_cons_succ, List.set_cons_zero]) | (apply wl_ldr; exact rfl; exact hM; exact rfl; exact rfl; exact inferInstance; exact inferInstance; exact inferInstance; exact inferInstance; simp only [putT, List.set_cons_succ, List.set_cons_zero]) | (apply wl_st; exact rfl; exact hM; exact rfl; exact rfl; exact rfl; exact rfl; exact inferInstance; exact inferInstance; clear hM; intro ww hM; simp only [putT, List.set_cons_succ, List.set_cons_zero]) | (apply wl_sta; exact rfl; exact hM; exact rfl; exact rfl; exact rfl; exact all_oneCell_toArray One.out; exact inferInstance; exact inferInstance; exact inferInstance; clear hM; intro ww hM; simp only [putT, List.set_cons_succ, List.set_cons_zero]) | (apply wl_bs0; exact rfl; exact hM; exact rfl; exact inferInstance; clear hM; intro gg ww hM; simp only [putT, List.set_cons_succ, List.set_cons_zero]) | (apply wl_bs1a; exact rfl; exact hM; exact rfl; exact inferInstance; exact rfl; exact inferInstance; clear hM; intro gg ww hM; simp only [putT, List.set_cons_succ, List.set_cons_zero]) | (apply wl_bs11; exact rfl; exact hM; exact rfl; exact inferInstance; exact rfl; exact rfl; clear hM; intro gg ww hM; simp only [putT, List.set_cons_succ, List.set_cons_zero]) | (apply wl_conv; exact rfl; exact hM; exact rfl; exact rfl; exact inferInstance; exact inferInstance; simp only [putT, List.set_cons_succ, List.set_cons_zero])))
        have HM := hide hM
        go_loopw [8] (fun iv wr => ∃ i : Nat, i ≤ q ∧ iv = .int .i64 i ∧ Mem w noOwn wr [.obj gm (IsMap (tget tb)), .blk b 65 #[.map (some g)], .obj g (IsMap (tget tb))]) (fun iv _ => q - (intOf iv).toNat)
        case atStart => exact ⟨0, Nat.zero_le _, by go_num, hM⟩
        case round =>
          clear hM HM
          obtain ⟨i, hi, rfl, hM⟩ := hrel
          by_cases hlt2 : i < q
          · obtain ⟨bk, ok, rfl, hbk, hck⟩ := one_cell hA hn i (by omega)
            obtain ⟨s0, hs0⟩ := unhide HGET i (by omega) (by omega) hlt2
            obtain ⟨k, hk⟩ : ∃ k, k = ks[i]'(by omega) := ⟨_, rfl⟩
            rw [← hk] at hck hs0
            have k1 : Old w noOwn ⟨bk, ok + i, none⟩ (.int .i64 k) := old_no hck
            have HS0 := hide hs0
            clear hck hs0 hk
            go_wp2_with (first
              | (go_at_call 12; refine (Get_str hM k (b := b) (g := g) inferInstance inferInstance).mono ?_; rw [unhide HS0]; rintro e1 w1 ⟨rfl, rfl⟩)
              | (apply wl_tget; exact rfl; exact hM; exact rfl; exact rfl; exact rfl; exact inferInstance; exact inferInstance; exact (show (tget tb k).getD (.string ⟨#[]⟩) = .string s0 by rw [unhide HS0]; rfl); simp only [putT, List.set_cons_succ, List.set_cons_zero])
              | ((with_reducible refine wl_shape ?_); first | (apply wl_boxa; exact rfl; exact hM; exact rfl; exact rfl; clear hM; intro gg ww hM; simp only [putT, List.set_cons_succ, List.set_cons_zero]) | (apply wl_box1; exact rfl; exact hM; exact rfl; exact rfl; exact rfl; clear hM; intro gg ww hM; simp only [putT, List.set_cons_succ, List.set_cons_zero]) | (apply wl_alloc; exact rfl; exact hM; exact rfl; exact inferInstance; clear hM; intro gg ww hM; simp only [putT, List.set_cons_succ, List.set_cons_zero]) | (apply wl_ld; exact rfl; exact hM; exact rfl; exact rfl; exact inferInstance; exact inferInstance; simp only [putT, List.set_cons_succ, List.set_cons_zero]) | (apply wl_lda; exact rfl; exact hM; exact rfl; exact rfl; exact inferInstance; exact inferInstance; exact inferInstance; exact inferInstance; simp only [putT, List.set_cons_succ, List.set_cons_zero]) | (apply wl_ldr; exact rfl; exact hM; exact rfl; exact rfl; exact inferInstance; exact inferInstance; exact inferInstance; exact inferInstance; simp only [putT, List.set_cons_succ, List.set_cons_zero]) | (apply wl_st; exact rfl; exact hM; exact rfl; exact rfl; exact rfl; exact rfl; exact inferInstance; exact inferInstance; clear hM; intro ww hM; simp only [putT, List.set_cons_succ, List.set_cons_zero]) | (apply wl_sta; exact rfl; exact hM; exact rfl; exact rfl; exact rfl; exact all_oneCell_toArray One.out; exact inferInstance; exact inferInstance; exact inferInstance; clear hM; intro ww hM; simp only [putT, List.set_cons_succ, List.set_cons_zero]) | (apply wl_bs0; exact rfl; exact hM; exact rfl; exact inferInstance; clear hM; intro gg ww hM; simp only [putT, List.set_cons_succ, List.set_cons_zero]) | (apply wl_bs1a; exact rfl; exact hM; exact rfl; exact inferInstance; exact rfl; exact inferInstance; clear hM; intro gg ww hM; simp only [putT, List.set_cons_succ, List.set_cons_zero]) | (apply wl_bs11; exact rfl; exact hM; exact rfl; exact inferInstance; exact rfl; exact rfl; clear hM; intro gg ww hM; simp only [putT, List.set_cons_succ, List.set_cons_zero]) | (apply wl_conv; exact rfl; exact hM; exact rfl; exact rfl; exact inferInstance; exact inferInstance; simp only [putT, List.set_cons_succ, List.set_cons_zero])))
            go_roundw
            case rel => exact ⟨i + 1, by omega, by go_num, hM⟩
            case measure => simp [intOf]; omega
          · go_wp2_with (first
              | (apply wl_tlen; exact rfl; exact hM; exact rfl; exact rfl; exact inferInstance; exact inferInstance; exact unhide HRI; simp only [putT, List.set_cons_succ, List.set_cons_zero])
              | (go_at_call 13; refine (Len_str hM (b := b) (g := g) inferInstance inferInstance (unhide HRI)).mono ?_; rintro e1 w1 ⟨rfl, rfl⟩)
              | (go_at_call 14; refine (known3_any _).mono ?_; rintro e1 w3 ⟨rfl, hg⟩; replace hM := hM.call hg; clear hg)
              | ((with_reducible refine wl_shape ?_); first | (apply wl_boxa; exact rfl; exact hM; exact rfl; exact rfl; clear hM; intro gg ww hM; simp only [putT, List.set_cons_succ, List.set_cons_zero]) | (apply wl_box1; exact rfl; exact hM; exact rfl; exact rfl; exact rfl; clear hM; intro gg ww hM; simp only [putT, List.set_cons_succ, List.set_cons_zero]) | (apply wl_alloc; exact rfl; exact hM; exact rfl; exact inferInstance; clear hM; intro gg ww hM; simp only [putT, List.set_cons_succ, List.set_cons_zero]) | (apply wl_ld; exact rfl; exact hM; exact rfl; exact rfl; exact inferInstance; exact inferInstance; simp only [putT, List.set_cons_succ, List.set_cons_zero]) | (apply wl_lda; exact rfl; exact hM; exact rfl; exact rfl; exact inferInstance; exact inferInstance; exact inferInstance; exact inferInstance; simp only [putT, List.set_cons_succ, List.set_cons_zero]) | (apply wl_ldr; exact rfl; exact hM; exact rfl; exact rfl; exact inferInstance; exact inferInstance; exact inferInstance; exact inferInstance; simp only [putT, List.set_cons_succ, List.set_cons_zero]) | (apply wl_st; exact rfl; exact hM; exact rfl; exact rfl; exact rfl; exact rfl; exact inferInstance; exact inferInstance; clear hM; intro ww hM; simp only [putT, List.set_cons_succ, List.set_cons_zero]) | (apply wl_sta; exact rfl; exact hM; exact rfl; exact rfl; exact rfl; exact all_oneCell_toArray One.out; exact inferInstance; exact inferInstance; exact inferInstance; clear hM; intro ww hM; simp only [putT, List.set_cons_succ, List.set_cons_zero]) | (apply wl_bs0; exact rfl; exact hM; exact rfl; exact inferInstance; clear hM; intro gg ww hM; simp only [putT, List.set_cons_succ, List.set_cons_zero]) | (apply wl_bs1a; exact rfl; exact hM; exact rfl; exact inferInstance; exact rfl; exact inferInstance; clear hM; intro gg ww hM; simp only [putT, List.set_cons_succ, List.set_cons_zero]) | (apply wl_bs11; exact rfl; exact hM; exact rfl; exact inferInstance; exact rfl; exact rfl; clear hM; intro gg ww hM; simp only [putT, List.set_cons_succ, List.set_cons_zero]) | (apply wl_conv; exact rfl; exact hM; exact rfl; exact rfl; exact inferInstance; exact inferInstance; simp only [putT, List.set_cons_succ, List.set_cons_zero])))
            go_ret
            exact ⟨rfl, hM.grow⟩
  · go_enter Try.func3, Try.ntmps3
    go_wp2_with fail
    all_goals first | (exfalso; omega) | (go_ret; exact ⟨rfl, hM.grow⟩)
end Go.Proofs.Ytnmnknjgibkkaaa
