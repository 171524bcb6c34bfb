/- hold's law: HoldOrder. -/
import Derived.Test.YtnmnknjgibkkaaaHold2
import Derived.Test.YtnmnknjgibkkaaaHolP
import Derived.Test.YtnmnknjgibkkaaaReg2
import Derived.IntWalk
namespace Go.Proofs.Ytnmnknjgibkkaaa
open Go.RowKit Go.MapKept
set_option linter.unusedSimpArgs false
set_option linter.unusedVariables false
/-- A table of ints. -/
structure TbI (tb : List (Int × Value)) (q : Nat) : Prop where
  rise : Rise tb
  in64 : In64 tb
  len : tb.length ≤ q
  ints : ∀ p ∈ tb, ∃ z : Int, p.2 = .int .i64 z
theorem TbI.nil (q : Nat) : TbI [] q := ⟨List.Pairwise.nil, (fun p h => by cases h), Nat.zero_le _, (fun p h => by cases h)⟩
theorem TbI.set {tb : List (Int × Value)} {q : Nat} (h : TbI tb q) (k z : Int) (hk : -9223372036854775808 ≤ k ∧ k ≤ 9223372036854775807) : TbI (tset k (.int .i64 z) tb) (q + 1) :=
  ⟨tset_rise h.rise, fun p hp => by
    rcases tset_mem hp with rfl | hp
    · exact hk
    · exact h.in64 p hp, by have := tset_len (k := k) (v := Value.int .i64 z) tb; have := h.len; omega, fun p hp => by
    rcases tset_mem hp with rfl | hp
    · exact ⟨z, rfl⟩
    · exact h.ints p hp⟩
theorem tdel_mem {β : Type} {tb : List (Int × β)} {k : Int} {p : Int × β} (h : p ∈ tdel k tb) : p ∈ tb := (List.mem_filter.1 h).1
theorem TbI.del {tb : List (Int × Value)} {q : Nat} (h : TbI tb q) (k : Int) : TbI (tdel k tb) (q + 1) :=
  ⟨tdel_rise h.rise, fun p hp => h.in64 p (tdel_mem hp), by have := tdel_len (k := k) tb; have := h.len; omega, fun p hp => h.ints p (tdel_mem hp)⟩
attribute [local irreducible] wpList Code.wp GW Calls
set_option maxRecDepth 100000 in
set_option maxHeartbeats 8000000 in
theorem HoldOrder_any (w : World) (n c m d : Nat) (A B : Option Addr) (ks : List Int) (ds : List Bool) (hA : Reads w w.heap.size 1 A n (ks.map (Value.int .i64))) (hn : ks.length = n) (hc : n ≤ c) (hB : Reads w w.heap.size 1 B m (ds.map Value.bool)) (hm : ds.length = m) (hd : m ≤ d) (hks : ∀ k ∈ ks, -9223372036854775808 ≤ k ∧ k ≤ 9223372036854775807) :
    Calls Try.prog 4 #[.slice A n c, .slice B m d] w fun e w' => e = .returned (.bool true) ∧ Grow w noOwn w' := by
  have hM := Mem.nil w noOwn
  by_cases hin : n ≤ 100 ∧ n ≤ m
  · obtain ⟨hn60, hnm⟩ := hin
    have HKS := hide hks
    clear hks
    go_enter Try.func4, Try.ntmps4
    go_wp2_with (first
      | ((with_reducible refine wl_shape ?_); first | (apply wl_boxa; exact rfl; exact hM; exact rfl; exact rfl; clear hM; intro gg ww hM; simp only [putT, List.set_cons_succ, List.set_cons_zero]) | (apply wl_box1; exact rfl; exact hM; exact rfl; exact rfl; exact rfl; clear hM; intro gg ww hM; simp only [putT, List.set_cons_succ, List.set_cons_zero]) | (apply wl_alloc; exact rfl; exact hM; exact rfl; exact inferInstance; clear hM; intro gg ww hM; simp only [putT, List.set_cons_succ, List.set_cons_zero]) | (apply wl_ld; exact rfl; exact hM; exact rfl; exact rfl; exact inferInstance; exact inferInstance; simp only [putT, List.set_cons_succ, List.set_cons_zero]) | (apply wl_lda; exact rfl; exact hM; exact rfl; exact rfl; exact inferInstance; exact inferInstance; exact inferInstance; exact inferInstance; simp only [putT, List.set_cons_succ, List.set_cons_zero]) | (apply wl_ldr; exact rfl; exact hM; exact rfl; exact rfl; exact inferInstance; exact inferInstance; exact inferInstance; exact inferInstance; simp only [putT, List.set_cons_succ, List.set_cons_zero]) | (apply wl_st; exact rfl; exact hM; exact rfl; exact rfl; exact rfl; exact rfl; exact inferInstance; exact inferInstance; clear hM; intro ww hM; simp only [putT, List.set_cons_succ, List.set_cons_zero]) | (apply wl_sta; exact rfl; exact hM; exact rfl; exact rfl; exact rfl; exact all_oneCell_toArray One.out; exact inferInstance; exact inferInstance; exact inferInstance; clear hM; intro ww hM; simp only [putT, List.set_cons_succ, List.set_cons_zero]) | (apply wl_bs0; exact rfl; exact hM; exact rfl; exact inferInstance; clear hM; intro gg ww hM; simp only [putT, List.set_cons_succ, List.set_cons_zero]) | (apply wl_bs1a; exact rfl; exact hM; exact rfl; exact inferInstance; exact rfl; exact inferInstance; clear hM; intro gg ww hM; simp only [putT, List.set_cons_succ, List.set_cons_zero]) | (apply wl_bs11; exact rfl; exact hM; exact rfl; exact inferInstance; exact rfl; exact rfl; clear hM; intro gg ww hM; simp only [putT, List.set_cons_succ, List.set_cons_zero]) | (apply wl_conv; exact rfl; exact hM; exact rfl; exact rfl; exact inferInstance; exact inferInstance; simp only [putT, List.set_cons_succ, List.set_cons_zero]))
      | (go_at_call 15; refine (New_int hM).mono ?_; rintro e1 w1 ⟨b, g, rfl, hM1⟩; clear hM; have hM := hM1; clear hM1; (try simp only [List.cons_append, List.nil_append, List.set_cons_succ, List.set_cons_zero] at hM))
      | (refine wpList_makeMap_mem rfl 36 rfl hM ?_; clear hM; intro gm wm hM; change Mem _ _ _ (Item.obj gm (IsMap (tget ([] : List (Int × Value)))) :: .blk b 67 #[.map (some g)] :: .obj g (IsMap (tget ([] : List (Int × Value)))) :: _) at hM))
    have HM := hide hM
    go_loopw [7] (fun iv wr => ∃ (q : Nat) (tb : List (Int × Value)), q ≤ n ∧ iv = .int .i64 q ∧ Hid (TbI tb q) ∧ Mem w noOwn wr [.obj gm (IsMap (tget tb)), .blk b 67 #[.map (some g)], .obj g (IsMap (tget tb))]) (fun iv _ => n - (intOf iv).toNat)
    case atStart => exact ⟨0, [], Nat.zero_le _, by go_num, hide (TbI.nil 0), hM⟩
    case round =>
      clear hM HM
      obtain ⟨q, tb, hq, rfl, HT, hM⟩ := hrel
      by_cases hlt : q < n
      · obtain ⟨bk, ok, rfl, hbk, hck⟩ := one_cell hA hn q (by omega)
        obtain ⟨bt, ot, rfl, hbt, hct⟩ := one_cell hB hm q (by omega)
        have hkr := unhide HKS _ (List.getElem_mem (by omega : q < ks.length))
        obtain ⟨k, hk⟩ : ∃ k, k = ks[q] := ⟨_, rfl⟩
        obtain ⟨s, hs⟩ : ∃ s, s = ds[q] := ⟨_, rfl⟩
        rw [← hk] at hck hkr
        rw [← hs] at hct
        have k1 : Old w noOwn ⟨bk, ok + q, none⟩ (.int .i64 k) := old_no hck
        have t1 : Old w noOwn ⟨bt, ot + q, none⟩ (.bool s) := old_no hct
        have hqm : q < m := by omega
        clear hck hct hk hs
        have HKR := hide hkr
        clear hkr
        cases s
        · go_wp2_with (first
            | (apply wl_tset; exact rfl; exact hM; exact rfl; exact rfl; exact rfl; exact rfl; exact inferInstance; exact inferInstance; clear hM; intro ww hM; simp only [putT, List.set_cons_succ, List.set_cons_zero])
            | (go_at_call 17; refine (Set_int hM k (.int .i64 q) (b := b) (g := g) inferInstance inferInstance).mono ?_; rintro e1 w1 ⟨⟨r1, rfl⟩, hM1⟩; clear hM; have hM := hM1; clear hM1; (try simp only [List.cons_append, List.nil_append, List.set_cons_succ, List.set_cons_zero] at hM))
            | ((with_reducible refine wl_shape ?_); first | (apply wl_boxa; exact rfl; exact hM; exact rfl; exact rfl; clear hM; intro gg ww hM; simp only [putT, List.set_cons_succ, List.set_cons_zero]) | (apply wl_box1; exact rfl; exact hM; exact rfl; exact rfl; exact rfl; clear hM; intro gg ww hM; simp only [putT, List.set_cons_succ, List.set_cons_zero]) | (apply wl_alloc; exact rfl; exact hM; exact rfl; exact inferInstance; clear hM; intro gg ww hM; simp only [putT, List.set_cons_succ, List.set_cons_zero]) | (apply wl_ld; exact rfl; exact hM; exact rfl; exact rfl; exact inferInstance; exact inferInstance; simp only [putT, List.set_cons_succ, List.set_cons_zero]) | (apply wl_lda; exact rfl; exact hM; exact rfl; exact rfl; exact inferInstance; exact inferInstance; exact inferInstance; exact inferInstance; simp only [putT, List.set_cons_succ, List.set_cons_zero]) | (apply wl_ldr; exact rfl; exact hM; exact rfl; exact rfl; exact inferInstance; exact inferInstance; exact inferInstance; exact inferInstance; simp only [putT, List.set_cons_succ, List.set_cons_zero]) | (apply wl_st; exact rfl; exact hM; exact rfl; exact rfl; exact rfl; exact rfl; exact inferInstance; exact inferInstance; clear hM; intro ww hM; simp only [putT, List.set_cons_succ, List.set_cons_zero]) | (apply wl_sta; exact rfl; exact hM; exact rfl; exact rfl; exact rfl; exact all_oneCell_toArray One.out; exact inferInstance; exact inferInstance; exact inferInstance; clear hM; intro ww hM; simp only [putT, List.set_cons_succ, List.set_cons_zero]) | (apply wl_bs0; exact rfl; exact hM; exact rfl; exact inferInstance; clear hM; intro gg ww hM; simp only [putT, List.set_cons_succ, List.set_cons_zero]) | (apply wl_bs1a; exact rfl; exact hM; exact rfl; exact inferInstance; exact rfl; exact inferInstance; clear hM; intro gg ww hM; simp only [putT, List.set_cons_succ, List.set_cons_zero]) | (apply wl_bs11; exact rfl; exact hM; exact rfl; exact inferInstance; exact rfl; exact rfl; clear hM; intro gg ww hM; simp only [putT, List.set_cons_succ, List.set_cons_zero]) | (apply wl_conv; exact rfl; exact hM; exact rfl; exact rfl; exact inferInstance; exact inferInstance; simp only [putT, List.set_cons_succ, List.set_cons_zero])))
          go_roundw
          case rel => exact ⟨q + 1, _, by omega, by go_num, hide ((unhide HT).set k q (unhide HKR)), hM⟩
          case measure => simp [intOf]; omega
        · obtain ⟨gs, hgs⟩ : ∃ gs, gs = (tget tb k).isSome := ⟨_, rfl⟩
          obtain ⟨gv, hgv⟩ : ∃ gv, gv = (tget tb k).getD (.int .i64 0) := ⟨_, rfl⟩
          have HGS := hide hgs
          have HGV := hide hgv
          clear hgs hgv
          cases gs
          all_goals
            go_wp2_with (first
              | (apply wl_tget; exact rfl; exact hM; exact rfl; exact rfl; exact rfl; exact inferInstance; exact inferInstance; exact (show Value.tuple #[(tget tb k).getD (.int .i64 0), .bool (tget tb k).isSome] = .tuple #[gv, .bool _] by rw [← unhide HGV, ← unhide HGS]); simp only [putT, List.set_cons_succ, List.set_cons_zero])
              | (apply wl_tdel; exact rfl; exact hM; exact rfl; exact rfl; exact rfl; exact inferInstance; exact inferInstance; clear hM; intro ww hM; simp only [putT, List.set_cons_succ, List.set_cons_zero])
              | (go_at_call 16; refine (Del_int hM k (b := b) (g := g) inferInstance inferInstance inferInstance).mono ?_; rw [← unhide HGS]; rintro e1 w1 ⟨rfl, hM1⟩; clear hM; have hM := hM1; clear hM1; (try simp only [List.cons_append, List.nil_append, List.set_cons_succ, List.set_cons_zero] at hM))
              | ((with_reducible refine wl_shape ?_); first | (apply wl_boxa; exact rfl; exact hM; exact rfl; exact rfl; clear hM; intro gg ww hM; simp only [putT, List.set_cons_succ, List.set_cons_zero]) | (apply wl_box1; exact rfl; exact hM; exact rfl; exact rfl; exact rfl; clear hM; intro gg ww hM; simp only [putT, List.set_cons_succ, List.set_cons_zero]) | (apply wl_alloc; exact rfl; exact hM; exact rfl; exact inferInstance; clear hM; intro gg ww hM; simp only [putT, List.set_cons_succ, List.set_cons_zero]) | (apply wl_ld; exact rfl; exact hM; exact rfl; exact rfl; exact inferInstance; exact inferInstance; simp only [putT, List.set_cons_succ, List.set_cons_zero]) | (apply wl_lda; exact rfl; exact hM; exact rfl; exact rfl; exact inferInstance; exact inferInstance; exact inferInstance; exact inferInstance; simp only [putT, List.set_cons_succ, List.set_cons_zero]) | (apply wl_ldr; exact rfl; exact hM; exact rfl; exact rfl; exact inferInstance; exact inferInstance; exact inferInstance; exact inferInstance; simp only [putT, List.set_cons_succ, List.set_cons_zero]) | (apply wl_st; exact rfl; exact hM; exact rfl; exact rfl; exact rfl; exact rfl; exact inferInstance; exact inferInstance; clear hM; intro ww hM; simp only [putT, List.set_cons_succ, List.set_cons_zero]) | (apply wl_sta; exact rfl; exact hM; exact rfl; exact rfl; exact rfl; exact all_oneCell_toArray One.out; exact inferInstance; exact inferInstance; exact inferInstance; clear hM; intro ww hM; simp only [putT, List.set_cons_succ, List.set_cons_zero]) | (apply wl_bs0; exact rfl; exact hM; exact rfl; exact inferInstance; clear hM; intro gg ww hM; simp only [putT, List.set_cons_succ, List.set_cons_zero]) | (apply wl_bs1a; exact rfl; exact hM; exact rfl; exact inferInstance; exact rfl; exact inferInstance; clear hM; intro gg ww hM; simp only [putT, List.set_cons_succ, List.set_cons_zero]) | (apply wl_bs11; exact rfl; exact hM; exact rfl; exact inferInstance; exact rfl; exact rfl; clear hM; intro gg ww hM; simp only [putT, List.set_cons_succ, List.set_cons_zero]) | (apply wl_conv; exact rfl; exact hM; exact rfl; exact rfl; exact inferInstance; exact inferInstance; simp only [putT, List.set_cons_succ, List.set_cons_zero])))
            go_roundw
            case rel => exact ⟨q + 1, _, by omega, by go_num, hide ((unhide HT).del k), hM⟩
            case measure => simp [intOf]; omega
      · have e : q = n := by omega
        subst e
        have hT := unhide HT
        obtain ⟨r, hr⟩ : ∃ r, r = tb.length := ⟨_, rfl⟩
        have hrq : r ≤ 100 := by have := hT.len; omega
        have HR := hide hr
        have HRI := hide hT.rise
        have HIN := hide hT.in64
        have hget : ∀ (i : Nat) (hi : i < tb.length), ∃ z, tget tb tb[i].1 = some (.int .i64 z) := by
          intro i hi
          obtain ⟨z, hz⟩ := hT.ints _ (List.getElem_mem hi)
          exact ⟨z, by rw [← hz]; exact tget_mem hT.rise (List.getElem_mem hi)⟩
        have HGET := hide hget
        clear hr hT hget
        go_wp2_with (first
          | (go_at_call 18; refine (Keys_int hM (b := b) (g := g) inferInstance inferInstance (unhide HRI) (unhide HIN) (by rw [← unhide HR]; omega)).mono ?_; rw [← unhide HR]; rintro e1 w1 ⟨Ak, ck, rfl, hM1⟩; clear hM; have hM := hM1; clear hM1; (try simp only [List.cons_append, List.nil_append, List.set_cons_succ, List.set_cons_zero] at hM))
          | ((with_reducible refine wl_shape ?_); first | (apply wl_boxa; exact rfl; exact hM; exact rfl; exact rfl; clear hM; intro gg ww hM; simp only [putT, List.set_cons_succ, List.set_cons_zero]) | (apply wl_box1; exact rfl; exact hM; exact rfl; exact rfl; exact rfl; clear hM; intro gg ww hM; simp only [putT, List.set_cons_succ, List.set_cons_zero]) | (apply wl_alloc; exact rfl; exact hM; exact rfl; exact inferInstance; clear hM; intro gg ww hM; simp only [putT, List.set_cons_succ, List.set_cons_zero]) | (apply wl_ld; exact rfl; exact hM; exact rfl; exact rfl; exact inferInstance; exact inferInstance; simp only [putT, List.set_cons_succ, List.set_cons_zero]) | (apply wl_lda; exact rfl; exact hM; exact rfl; exact rfl; exact inferInstance; exact inferInstance; exact inferInstance; exact inferInstance; simp only [putT, List.set_cons_succ, List.set_cons_zero]) | (apply wl_ldr; exact rfl; exact hM; exact rfl; exact rfl; exact inferInstance; exact inferInstance; exact inferInstance; exact inferInstance; simp only [putT, List.set_cons_succ, List.set_cons_zero]) | (apply wl_st; exact rfl; exact hM; exact rfl; exact rfl; exact rfl; exact rfl; exact inferInstance; exact inferInstance; clear hM; intro ww hM; simp only [putT, List.set_cons_succ, List.set_cons_zero]) | (apply wl_sta; exact rfl; exact hM; exact rfl; exact rfl; exact rfl; exact all_oneCell_toArray One.out; exact inferInstance; exact inferInstance; exact inferInstance; clear hM; intro ww hM; simp only [putT, List.set_cons_succ, List.set_cons_zero]) | (apply wl_bs0; exact rfl; exact hM; exact rfl; exact inferInstance; clear hM; intro gg ww hM; simp only [putT, List.set_cons_succ, List.set_cons_zero]) | (apply wl_bs1a; exact rfl; exact hM; exact rfl; exact inferInstance; exact rfl; exact inferInstance; clear hM; intro gg ww hM; simp only [putT, List.set_cons_succ, List.set_cons_zero]) | (apply wl_bs11; exact rfl; exact hM; exact rfl; exact inferInstance; exact rfl; exact rfl; clear hM; intro gg ww hM; simp only [putT, List.set_cons_succ, List.set_cons_zero]) | (apply wl_conv; exact rfl; exact hM; exact rfl; exact rfl; exact inferInstance; exact inferInstance; simp only [putT, List.set_cons_succ, List.set_cons_zero])))
        obtain ⟨xs, hxs⟩ : ∃ xs : List Value, xs = (tb.map (·.1)).map (Value.int .i64) := ⟨_, rfl⟩
        rw [← hxs] at hM
        have HXS := hide hxs
        clear hxs
        have HM := hide hM
        go_loopw [11] (fun iv wr => ∃ i : Nat, i ≤ r ∧ iv = .int .i64 i ∧ Mem w noOwn wr [.row (.slice Ak r ck) 3 1 r xs, .obj gm (IsMap (tget tb)), .blk b 67 #[.map (some g)], .obj g (IsMap (tget tb))]) (fun iv _ => r - (intOf iv).toNat)
        case atStart => exact ⟨0, Nat.zero_le _, by go_num, hM⟩
        case round =>
          clear hM HM
          obtain ⟨i, hi, rfl, hM⟩ := hrel
          by_cases hlt2 : i < r
          · obtain ⟨ga, rfl, -⟩ := row_some (hM.row 0 rfl) (by omega)
            have hrc := (row_cap (hM.row 0 rfl)).1
            have hil : i < tb.length := by rw [← unhide HR]; exact hlt2
            obtain ⟨z, hz⟩ := unhide HGET i hil
            obtain ⟨k, hk⟩ : ∃ k, k = tb[i].1 := ⟨_, rfl⟩
            have hat : xs[i]? = some (.int .i64 k) := by rw [hk, unhide HXS]; simp [hil]
            have ck1 : ∀ (w0 : World) (L' : List Item) [HasRow L' (.slice (some ⟨ga, 0, none⟩) r ck) 3 1 r xs], Cell w0 noOwn L' ⟨ga, i, none⟩ (.int .i64 k) := fun w0 L' _ => by
              have : AtL xs i (.int .i64 k) := ⟨hat⟩
              exact row_cell (n := r) (c := ck) (m := r) (e := 3) (xs := xs)
            rw [← hk] at hz
            have HZ := hide hz
            rcases (by omega : i = 0 ∨ 0 < i) with h0 | h0
            · subst h0
              clear hat hz hk
              go_wp2_with (first
                | (go_at_call 19; refine (Get_int hM k (b := b) (g := g) inferInstance inferInstance).mono ?_; rw [unhide HZ]; rintro e1 w1 ⟨rfl, rfl⟩)
                | (apply wl_tget; exact rfl; exact hM; exact rfl; exact rfl; exact rfl; exact inferInstance; exact inferInstance; exact (show Value.tuple #[(tget tb k).getD (.int .i64 0), .bool (tget tb k).isSome] = .tuple #[.int .i64 z, .bool true] by rw [unhide HZ]; rfl); simp only [putT, List.set_cons_succ, List.set_cons_zero])
                | ((with_reducible refine wl_shape ?_); first | (apply wl_boxa; exact rfl; exact hM; exact rfl; exact rfl; clear hM; intro gg ww hM; simp only [putT, List.set_cons_succ, List.set_cons_zero]) | (apply wl_box1; exact rfl; exact hM; exact rfl; exact rfl; exact rfl; clear hM; intro gg ww hM; simp only [putT, List.set_cons_succ, List.set_cons_zero]) | (apply wl_alloc; exact rfl; exact hM; exact rfl; exact inferInstance; clear hM; intro gg ww hM; simp only [putT, List.set_cons_succ, List.set_cons_zero]) | (apply wl_ld; exact rfl; exact hM; exact rfl; exact rfl; exact inferInstance; exact inferInstance; simp only [putT, List.set_cons_succ, List.set_cons_zero]) | (apply wl_lda; exact rfl; exact hM; exact rfl; exact rfl; exact inferInstance; exact inferInstance; exact inferInstance; exact inferInstance; simp only [putT, List.set_cons_succ, List.set_cons_zero]) | (apply wl_ldr; exact rfl; exact hM; exact rfl; exact rfl; exact inferInstance; exact inferInstance; exact inferInstance; exact inferInstance; simp only [putT, List.set_cons_succ, List.set_cons_zero]) | (apply wl_st; exact rfl; exact hM; exact rfl; exact rfl; exact rfl; exact rfl; exact inferInstance; exact inferInstance; clear hM; intro ww hM; simp only [putT, List.set_cons_succ, List.set_cons_zero]) | (apply wl_sta; exact rfl; exact hM; exact rfl; exact rfl; exact rfl; exact all_oneCell_toArray One.out; exact inferInstance; exact inferInstance; exact inferInstance; clear hM; intro ww hM; simp only [putT, List.set_cons_succ, List.set_cons_zero]) | (apply wl_bs0; exact rfl; exact hM; exact rfl; exact inferInstance; clear hM; intro gg ww hM; simp only [putT, List.set_cons_succ, List.set_cons_zero]) | (apply wl_bs1a; exact rfl; exact hM; exact rfl; exact inferInstance; exact rfl; exact inferInstance; clear hM; intro gg ww hM; simp only [putT, List.set_cons_succ, List.set_cons_zero]) | (apply wl_bs11; exact rfl; exact hM; exact rfl; exact inferInstance; exact rfl; exact rfl; clear hM; intro gg ww hM; simp only [putT, List.set_cons_succ, List.set_cons_zero]) | (apply wl_conv; exact rfl; exact hM; exact rfl; exact rfl; exact inferInstance; exact inferInstance; simp only [putT, List.set_cons_succ, List.set_cons_zero])))
              refine wp_region_mc [] [] [] hM (by kernel_rfl) (by kernel_rfl) (by kernel_rfl) (by kernel_rfl) ?_; simp only [initS, Act.put, List.setIfInBounds_toArray, List.set_cons_succ, List.set_cons_zero, List.map_cons, List.map_nil]
              (repeat (first | (apply gm_move; (first | exact .inl rfl | exact .inr rfl); exact rfl; exact rfl; simp only [setD, List.set_cons_succ, List.set_cons_zero]) | (apply gm_ld; exact rfl; exact rfl; exact rfl; exact inferInstance; exact inferInstance; simp only [setD, List.set_cons_succ, List.set_cons_zero]) | (apply gm_lda; exact rfl; exact rfl; exact rfl; exact inferInstance; exact inferInstance; exact inferInstance; exact inferInstance; simp only [setD, List.set_cons_succ, List.set_cons_zero]) | (apply gm_ldr; exact rfl; exact rfl; exact rfl; exact inferInstance; exact inferInstance; exact inferInstance; exact inferInstance; simp only [setD, List.set_cons_succ, List.set_cons_zero]) | (apply gm_cmp true; exact rfl; exact rfl; exact rfl; exact rfl; (simp only [cmpB, Option.some.injEq, decide_eq_true_eq, ne_eq]; omega); simp only [setD, List.set_cons_succ, List.set_cons_zero]) | (apply gm_cmp false; exact rfl; exact rfl; exact rfl; exact rfl; (simp only [cmpB, Option.some.injEq, decide_eq_false_iff_not, ne_eq]; omega); simp only [setD, List.set_cons_succ, List.set_cons_zero]) | (apply gm_pick; exact rfl; exact rfl; exact rfl; exact rfl; exact rfl; simp only [setD, List.set_cons_succ, List.set_cons_zero, cond_true, cond_false]) | (apply gm_skip; exact rfl; simp only [setD, List.set_cons_succ, List.set_cons_zero]) | (apply gm_skipU; exact rfl; exact rfl; exact rfl; exact rfl; simp only [setD, List.set_cons_succ, List.set_cons_zero]) | (apply gm_moveP; (first | exact .inl rfl | exact .inr rfl); exact rfl; exact rfl; exact rfl; simp only [setD, List.set_cons_succ, List.set_cons_zero]) | (refine gw_isPure rfl ?_; apply gm_pure; exact rfl; intro K hK; go_simp; refine hK _ ?_; clear hK K; simp only [setD, List.set_cons_succ, List.set_cons_zero])))
              refine gw_nil ?_; intro γ w4 hC' hk'; simp only [slAct, slVals, Slot.get]
              clear hM
              have hM : Mem w noOwn w4 _ := hC'
              clear hC' hk'
              go_wp2_with (first | ((with_reducible refine wl_shape ?_); first | (apply wl_boxa; exact rfl; exact hM; exact rfl; exact rfl; clear hM; intro gg ww hM; simp only [putT, List.set_cons_succ, List.set_cons_zero]) | (apply wl_box1; exact rfl; exact hM; exact rfl; exact rfl; exact rfl; clear hM; intro gg ww hM; simp only [putT, List.set_cons_succ, List.set_cons_zero]) | (apply wl_alloc; exact rfl; exact hM; exact rfl; exact inferInstance; clear hM; intro gg ww hM; simp only [putT, List.set_cons_succ, List.set_cons_zero]) | (apply wl_ld; exact rfl; exact hM; exact rfl; exact rfl; exact inferInstance; exact inferInstance; simp only [putT, List.set_cons_succ, List.set_cons_zero]) | (apply wl_lda; exact rfl; exact hM; exact rfl; exact rfl; exact inferInstance; exact inferInstance; exact inferInstance; exact inferInstance; simp only [putT, List.set_cons_succ, List.set_cons_zero]) | (apply wl_ldr; exact rfl; exact hM; exact rfl; exact rfl; exact inferInstance; exact inferInstance; exact inferInstance; exact inferInstance; simp only [putT, List.set_cons_succ, List.set_cons_zero]) | (apply wl_st; exact rfl; exact hM; exact rfl; exact rfl; exact rfl; exact rfl; exact inferInstance; exact inferInstance; clear hM; intro ww hM; simp only [putT, List.set_cons_succ, List.set_cons_zero]) | (apply wl_sta; exact rfl; exact hM; exact rfl; exact rfl; exact rfl; exact all_oneCell_toArray One.out; exact inferInstance; exact inferInstance; exact inferInstance; clear hM; intro ww hM; simp only [putT, List.set_cons_succ, List.set_cons_zero]) | (apply wl_bs0; exact rfl; exact hM; exact rfl; exact inferInstance; clear hM; intro gg ww hM; simp only [putT, List.set_cons_succ, List.set_cons_zero]) | (apply wl_bs1a; exact rfl; exact hM; exact rfl; exact inferInstance; exact rfl; exact inferInstance; clear hM; intro gg ww hM; simp only [putT, List.set_cons_succ, List.set_cons_zero]) | (apply wl_bs11; exact rfl; exact hM; exact rfl; exact inferInstance; exact rfl; exact rfl; clear hM; intro gg ww hM; simp only [putT, List.set_cons_succ, List.set_cons_zero]) | (apply wl_conv; exact rfl; exact hM; exact rfl; exact rfl; exact inferInstance; exact inferInstance; simp only [putT, List.set_cons_succ, List.set_cons_zero])))
              go_roundw
              case rel => exact ⟨1, by omega, by go_num, hM⟩
              case measure => simp [intOf]; omega
            · obtain ⟨kp, hkp⟩ : ∃ kp, kp = (tb[i - 1]'(by omega)).1 := ⟨_, rfl⟩
              have hlt3 : kp < k := by
                rw [hk, hkp]
                exact List.pairwise_iff_getElem.1 (unhide HRI) (i - 1) i (by omega) hil (by omega)
              have hat2 : xs[i - 1]? = some (.int .i64 kp) := by rw [hkp, unhide HXS]; simp [show i - 1 < tb.length from by omega]
              obtain ⟨i1, rfl⟩ : ∃ i1, i = i1 + 1 := ⟨i - 1, by omega⟩
              rw [Nat.add_sub_cancel] at hat2
              have ck2 : ∀ (w0 : World) (L' : List Item) [HasRow L' (.slice (some ⟨ga, 0, none⟩) r ck) 3 1 r xs], Cell w0 noOwn L' ⟨ga, i1, none⟩ (.int .i64 kp) := fun w0 L' _ => by
                have : AtL xs i1 (.int .i64 kp) := ⟨hat2⟩
                exact row_cell (n := r) (c := ck) (m := r) (e := 3) (xs := xs)
              clear hat hat2 hz hk hkp
              go_wp2_with (first
                | (go_at_call 19; refine (Get_int hM k (b := b) (g := g) inferInstance inferInstance).mono ?_; rw [unhide HZ]; rintro e1 w1 ⟨rfl, rfl⟩)
                | (apply wl_tget; exact rfl; exact hM; exact rfl; exact rfl; exact rfl; exact inferInstance; exact inferInstance; exact (show Value.tuple #[(tget tb k).getD (.int .i64 0), .bool (tget tb k).isSome] = .tuple #[.int .i64 z, .bool true] by rw [unhide HZ]; rfl); simp only [putT, List.set_cons_succ, List.set_cons_zero])
                | ((with_reducible refine wl_shape ?_); first | (apply wl_boxa; exact rfl; exact hM; exact rfl; exact rfl; clear hM; intro gg ww hM; simp only [putT, List.set_cons_succ, List.set_cons_zero]) | (apply wl_box1; exact rfl; exact hM; exact rfl; exact rfl; exact rfl; clear hM; intro gg ww hM; simp only [putT, List.set_cons_succ, List.set_cons_zero]) | (apply wl_alloc; exact rfl; exact hM; exact rfl; exact inferInstance; clear hM; intro gg ww hM; simp only [putT, List.set_cons_succ, List.set_cons_zero]) | (apply wl_ld; exact rfl; exact hM; exact rfl; exact rfl; exact inferInstance; exact inferInstance; simp only [putT, List.set_cons_succ, List.set_cons_zero]) | (apply wl_lda; exact rfl; exact hM; exact rfl; exact rfl; exact inferInstance; exact inferInstance; exact inferInstance; exact inferInstance; simp only [putT, List.set_cons_succ, List.set_cons_zero]) | (apply wl_ldr; exact rfl; exact hM; exact rfl; exact rfl; exact inferInstance; exact inferInstance; exact inferInstance; exact inferInstance; simp only [putT, List.set_cons_succ, List.set_cons_zero]) | (apply wl_st; exact rfl; exact hM; exact rfl; exact rfl; exact rfl; exact rfl; exact inferInstance; exact inferInstance; clear hM; intro ww hM; simp only [putT, List.set_cons_succ, List.set_cons_zero]) | (apply wl_sta; exact rfl; exact hM; exact rfl; exact rfl; exact rfl; exact all_oneCell_toArray One.out; exact inferInstance; exact inferInstance; exact inferInstance; clear hM; intro ww hM; simp only [putT, List.set_cons_succ, List.set_cons_zero]) | (apply wl_bs0; exact rfl; exact hM; exact rfl; exact inferInstance; clear hM; intro gg ww hM; simp only [putT, List.set_cons_succ, List.set_cons_zero]) | (apply wl_bs1a; exact rfl; exact hM; exact rfl; exact inferInstance; exact rfl; exact inferInstance; clear hM; intro gg ww hM; simp only [putT, List.set_cons_succ, List.set_cons_zero]) | (apply wl_bs11; exact rfl; exact hM; exact rfl; exact inferInstance; exact rfl; exact rfl; clear hM; intro gg ww hM; simp only [putT, List.set_cons_succ, List.set_cons_zero]) | (apply wl_conv; exact rfl; exact hM; exact rfl; exact rfl; exact inferInstance; exact inferInstance; simp only [putT, List.set_cons_succ, List.set_cons_zero])))
              have hw1 : IntKind.i64.wrap (i1 : Int) = (i1 : Int) := IntWalk.i64_in _ (by omega)
              have hw2 : ((i1 : Int) + 1 - 1) = (i1 : Int) := by omega
              have hi1 : i1 < r := by omega
              have hw3 : ((i1 : Int) + 1).toNat = i1 + 1 := by omega
              have hw4 : 0 ≤ (i1 : Int) + 1 := by omega
              have hw5 : (i1 : Int) + 1 < (r : Int) := by omega
              refine wp_region_mc [] [] [] hM (by kernel_rfl) (by kernel_rfl) (by kernel_rfl) (by kernel_rfl) ?_; simp only [initS, Act.put, List.setIfInBounds_toArray, List.set_cons_succ, List.set_cons_zero, List.map_cons, List.map_nil]
              (repeat (first | (apply gm_move; (first | exact .inl rfl | exact .inr rfl); exact rfl; exact rfl; simp only [setD, List.set_cons_succ, List.set_cons_zero]) | (apply gm_ld; exact rfl; exact rfl; exact rfl; exact inferInstance; exact inferInstance; simp only [setD, List.set_cons_succ, List.set_cons_zero]) | (apply gm_lda; exact rfl; exact rfl; exact rfl; exact inferInstance; exact inferInstance; exact inferInstance; exact inferInstance; simp only [setD, List.set_cons_succ, List.set_cons_zero]) | (apply gm_ldr; exact rfl; exact rfl; exact rfl; exact inferInstance; exact inferInstance; exact inferInstance; exact inferInstance; simp only [setD, List.set_cons_succ, List.set_cons_zero]) | (apply gm_cmp true; exact rfl; exact rfl; exact rfl; exact rfl; (simp only [cmpB, Option.some.injEq, decide_eq_true_eq, ne_eq]; omega); simp only [setD, List.set_cons_succ, List.set_cons_zero]) | (apply gm_cmp false; exact rfl; exact rfl; exact rfl; exact rfl; (simp only [cmpB, Option.some.injEq, decide_eq_false_iff_not, ne_eq]; omega); simp only [setD, List.set_cons_succ, List.set_cons_zero]) | (apply gm_pick; exact rfl; exact rfl; exact rfl; exact rfl; exact rfl; simp only [setD, List.set_cons_succ, List.set_cons_zero, cond_true, cond_false]) | (apply gm_skip; exact rfl; simp only [setD, List.set_cons_succ, List.set_cons_zero]) | (apply gm_skipU; exact rfl; exact rfl; exact rfl; exact rfl; simp only [setD, List.set_cons_succ, List.set_cons_zero]) | (apply gm_moveP; (first | exact .inl rfl | exact .inr rfl); exact rfl; exact rfl; exact rfl; simp only [setD, List.set_cons_succ, List.set_cons_zero]) | (refine gw_isPure rfl ?_; apply gm_pure; exact rfl; intro K hK; go_simp; refine hK _ ?_; clear hK K; simp only [setD, List.set_cons_succ, List.set_cons_zero])))
              refine gw_nil ?_; intro γ w4 hC' hk'; simp only [slAct, slVals, Slot.get]
              clear hM
              have hM : Mem w noOwn w4 _ := hC'
              clear hC' hk'
              go_wp2_with (first | ((with_reducible refine wl_shape ?_); first | (apply wl_boxa; exact rfl; exact hM; exact rfl; exact rfl; clear hM; intro gg ww hM; simp only [putT, List.set_cons_succ, List.set_cons_zero]) | (apply wl_box1; exact rfl; exact hM; exact rfl; exact rfl; exact rfl; clear hM; intro gg ww hM; simp only [putT, List.set_cons_succ, List.set_cons_zero]) | (apply wl_alloc; exact rfl; exact hM; exact rfl; exact inferInstance; clear hM; intro gg ww hM; simp only [putT, List.set_cons_succ, List.set_cons_zero]) | (apply wl_ld; exact rfl; exact hM; exact rfl; exact rfl; exact inferInstance; exact inferInstance; simp only [putT, List.set_cons_succ, List.set_cons_zero]) | (apply wl_lda; exact rfl; exact hM; exact rfl; exact rfl; exact inferInstance; exact inferInstance; exact inferInstance; exact inferInstance; simp only [putT, List.set_cons_succ, List.set_cons_zero]) | (apply wl_ldr; exact rfl; exact hM; exact rfl; exact rfl; exact inferInstance; exact inferInstance; exact inferInstance; exact inferInstance; simp only [putT, List.set_cons_succ, List.set_cons_zero]) | (apply wl_st; exact rfl; exact hM; exact rfl; exact rfl; exact rfl; exact rfl; exact inferInstance; exact inferInstance; clear hM; intro ww hM; simp only [putT, List.set_cons_succ, List.set_cons_zero]) | (apply wl_sta; exact rfl; exact hM; exact rfl; exact rfl; exact rfl; exact all_oneCell_toArray One.out; exact inferInstance; exact inferInstance; exact inferInstance; clear hM; intro ww hM; simp only [putT, List.set_cons_succ, List.set_cons_zero]) | (apply wl_bs0; exact rfl; exact hM; exact rfl; exact inferInstance; clear hM; intro gg ww hM; simp only [putT, List.set_cons_succ, List.set_cons_zero]) | (apply wl_bs1a; exact rfl; exact hM; exact rfl; exact inferInstance; exact rfl; exact inferInstance; clear hM; intro gg ww hM; simp only [putT, List.set_cons_succ, List.set_cons_zero]) | (apply wl_bs11; exact rfl; exact hM; exact rfl; exact inferInstance; exact rfl; exact rfl; clear hM; intro gg ww hM; simp only [putT, List.set_cons_succ, List.set_cons_zero]) | (apply wl_conv; exact rfl; exact hM; exact rfl; exact rfl; exact inferInstance; exact inferInstance; simp only [putT, List.set_cons_succ, List.set_cons_zero])))
              go_roundw
              case rel => exact ⟨i1 + 1 + 1, by omega, by go_num, hM⟩
              case measure => simp [intOf]; omega
          · have e : i = r := by omega
            subst e
            go_wp2_with (first
              | (apply wl_tlen; exact rfl; exact hM; exact rfl; exact rfl; exact inferInstance; exact inferInstance; exact unhide HRI; rw [← unhide HR]; simp only [putT, List.set_cons_succ, List.set_cons_zero])
              | (go_at_call 14; refine (known3_any _).mono ?_; rintro e1 w3 ⟨rfl, hg⟩; replace hM := hM.call hg; clear hg)
              | ((with_reducible refine wl_shape ?_); first | (apply wl_boxa; exact rfl; exact hM; exact rfl; exact rfl; clear hM; intro gg ww hM; simp only [putT, List.set_cons_succ, List.set_cons_zero]) | (apply wl_box1; exact rfl; exact hM; exact rfl; exact rfl; exact rfl; clear hM; intro gg ww hM; simp only [putT, List.set_cons_succ, List.set_cons_zero]) | (apply wl_alloc; exact rfl; exact hM; exact rfl; exact inferInstance; clear hM; intro gg ww hM; simp only [putT, List.set_cons_succ, List.set_cons_zero]) | (apply wl_ld; exact rfl; exact hM; exact rfl; exact rfl; exact inferInstance; exact inferInstance; simp only [putT, List.set_cons_succ, List.set_cons_zero]) | (apply wl_lda; exact rfl; exact hM; exact rfl; exact rfl; exact inferInstance; exact inferInstance; exact inferInstance; exact inferInstance; simp only [putT, List.set_cons_succ, List.set_cons_zero]) | (apply wl_ldr; exact rfl; exact hM; exact rfl; exact rfl; exact inferInstance; exact inferInstance; exact inferInstance; exact inferInstance; simp only [putT, List.set_cons_succ, List.set_cons_zero]) | (apply wl_st; exact rfl; exact hM; exact rfl; exact rfl; exact rfl; exact rfl; exact inferInstance; exact inferInstance; clear hM; intro ww hM; simp only [putT, List.set_cons_succ, List.set_cons_zero]) | (apply wl_sta; exact rfl; exact hM; exact rfl; exact rfl; exact rfl; exact all_oneCell_toArray One.out; exact inferInstance; exact inferInstance; exact inferInstance; clear hM; intro ww hM; simp only [putT, List.set_cons_succ, List.set_cons_zero]) | (apply wl_bs0; exact rfl; exact hM; exact rfl; exact inferInstance; clear hM; intro gg ww hM; simp only [putT, List.set_cons_succ, List.set_cons_zero]) | (apply wl_bs1a; exact rfl; exact hM; exact rfl; exact inferInstance; exact rfl; exact inferInstance; clear hM; intro gg ww hM; simp only [putT, List.set_cons_succ, List.set_cons_zero]) | (apply wl_bs11; exact rfl; exact hM; exact rfl; exact inferInstance; exact rfl; exact rfl; clear hM; intro gg ww hM; simp only [putT, List.set_cons_succ, List.set_cons_zero]) | (apply wl_conv; exact rfl; exact hM; exact rfl; exact rfl; exact inferInstance; exact inferInstance; simp only [putT, List.set_cons_succ, List.set_cons_zero])))
            go_ret
            exact ⟨rfl, hM.grow⟩
  · go_enter Try.func4, Try.ntmps4
    go_wp2_with fail
    all_goals first | (exfalso; omega) | (go_ret; exact ⟨rfl, hM.grow⟩)
end Go.Proofs.Ytnmnknjgibkkaaa
