/- The document's numbers as bytes. The document's VoteBody, Cast and Good. The document's VoteBody, Cast and Good. The document's Cast and Good. -/
import Derived.Test.YtkcmnhmbpamehaaOct
import Derived.Test.YtkcmnhmbpamehaaGood
namespace Go.Proofs.Ytkcmnhmbpamehaa
section
open Go.RowKit Go.MapKept
set_option linter.unusedSimpArgs false
set_option linter.unusedVariables false
theorem and127 (u : Nat) (h : u < 18446744073709551616) : bits .and .u64 (u : Int) 127 = ((u % 128 : Nat) : Int) := by
  show IntKind.u64.wrap ((BitVec.ofInt 64 (u : Int) &&& BitVec.ofInt 64 127).toNat : Int) = _
  have h1 : BitVec.ofInt 64 (u : Int) = BitVec.ofNat 64 u := by
    apply BitVec.eq_of_toNat_eq
    simp [BitVec.toNat_ofInt]
  rw [h1, BitVec.toNat_and, IntKind.wrap_u64]
  have h2 : (BitVec.ofInt 64 127).toNat = 2 ^ 7 - 1 := by decide
  rw [h2, Nat.and_two_pow_sub_one_eq_mod]
  simp
  omega
theorem u8_or2 (u : Nat) : bits .or .u8 ((u : Int) % 128) 128 = ((u % 128 + 128 : Nat) : Int) := by
  have h := u8_or (u % 128)
  rw [show (((u % 128 : Nat) : Int)) % 256 = (u : Int) % 128 from by omega] at h
  rw [h]
  omega
attribute [local irreducible] wpList Code.wp GW Calls
set_option maxRecDepth 100000 in
set_option maxHeartbeats 4000000 in
theorem RNum_any {w0 w : World} {own : Nat → Prop} {L : List Item} (hM : Mem w0 own w L) (z : Int) :
    Calls Try.prog 41 #[.int .i64 z] w fun e w' => ∃ A c, e = .returned (.slice A (numB z).length c) ∧ Mem w0 own w' (.row (.slice A (numB z).length c) 5 1 (numB z).length ((numB z).map V8) :: L) := by
  obtain ⟨G, hGe⟩ : ∃ G, G = numB z := ⟨_, rfl⟩
  have hGl : G.length ≤ 9 := by rw [hGe]; exact numB_len z
  have hnum := num_int z
  have hnle := num_le z
  rw [← hGe]
  have HG := hide hGe
  clear hGe
  replace hM := hM.pushNil 5 1
  have hu : 4611686018427387904 < z ∧ ((num z : Nat) : Int) = 4611686018427387904 ∨ (¬ 4611686018427387904 < z) ∧ 0 < z ∧ ((num z : Nat) : Int) = z ∨ (¬ 4611686018427387904 < z) ∧ ¬ 0 < z ∧ ((num z : Nat) : Int) = 0 := by omega
  have hwz : 0 < z → ¬ 4611686018427387904 < z → IntKind.u64.wrap z = z := fun h1 h2 => by rw [IntKind.wrap_u64]; omega
  clear hnum
  rcases hu with ⟨h1, hn⟩ | ⟨h1, h2, hn⟩ | ⟨h1, h2, hn⟩
  all_goals
    have HN := hide hn
    clear hn
    go_enter Try.func41, Try.ntmps41
    go_wp2_with (first | ((with_reducible refine wl_shape ?_); first | (apply wl_boxa; exact rfl; exact hM; exact rfl; exact rfl; clear hM; intro gg ww hM; simp only [putT, List.set_cons_succ, List.set_cons_zero]) | (apply wl_box1; exact rfl; exact hM; exact rfl; exact rfl; exact rfl; clear hM; intro gg ww hM; simp only [putT, List.set_cons_succ, List.set_cons_zero]) | (apply wl_alloc; exact rfl; exact hM; exact rfl; exact inferInstance; clear hM; intro gg ww hM; simp only [putT, List.set_cons_succ, List.set_cons_zero]) | (apply wl_ld; exact rfl; exact hM; exact rfl; exact rfl; exact inferInstance; exact inferInstance; simp only [putT, List.set_cons_succ, List.set_cons_zero]) | (apply wl_lda; exact rfl; exact hM; exact rfl; exact rfl; exact inferInstance; exact inferInstance; exact inferInstance; exact inferInstance; simp only [putT, List.set_cons_succ, List.set_cons_zero]) | (apply wl_ldr; exact rfl; exact hM; exact rfl; exact rfl; exact inferInstance; exact inferInstance; exact inferInstance; exact inferInstance; simp only [putT, List.set_cons_succ, List.set_cons_zero]) | (apply wl_st; exact rfl; exact hM; exact rfl; exact rfl; exact rfl; exact rfl; exact inferInstance; exact inferInstance; clear hM; intro ww hM; simp only [putT, List.set_cons_succ, List.set_cons_zero]) | (apply wl_sta; exact rfl; exact hM; exact rfl; exact rfl; exact rfl; exact all_oneCell_toArray One.out; exact inferInstance; exact inferInstance; exact inferInstance; clear hM; intro ww hM; simp only [putT, List.set_cons_succ, List.set_cons_zero]) | (apply wl_bs0; exact rfl; exact hM; exact rfl; exact inferInstance; clear hM; intro gg ww hM; simp only [putT, List.set_cons_succ, List.set_cons_zero]) | (apply wl_bs1a; exact rfl; exact hM; exact rfl; exact inferInstance; exact rfl; exact inferInstance; clear hM; intro gg ww hM; simp only [putT, List.set_cons_succ, List.set_cons_zero]) | (apply wl_bs11; exact rfl; exact hM; exact rfl; exact inferInstance; exact rfl; exact rfl; clear hM; intro gg ww hM; simp only [putT, List.set_cons_succ, List.set_cons_zero]) | (apply wl_conv; exact rfl; exact hM; exact rfl; exact rfl; exact inferInstance; exact inferInstance; simp only [putT, List.set_cons_succ, List.set_cons_zero])) | (rw [hwz h2 h1]))
    have HM := hide hM
    go_loopw [3, 4] (fun uu bb wr => ∃ (u n c : Nat) (l' : List (BitVec 8)) (A : Option Addr), u ≤ 4611686018427387904 ∧ uu = .int .u64 u ∧ bb = .slice A n c ∧ l'.length = n ∧ Hid (l' ++ vnum u = G) ∧ Mem w0 own wr (.row (.slice A n c) 5 1 n (l'.map V8) :: L)) (fun uu _ _ => (intOf uu).toNat)
    case atStart => exact ⟨num z, 0, 0, [], none, hnle, by rw [unhide HN], rfl, rfl, hide (unhide HG).symm, hM⟩
    case round =>
      clear hM HM HN HG
      obtain ⟨u, n, c, l', A, hu, rfl, rfl, hn, hl, hM⟩ := hrel
      have hnl : n ≤ 9 := by
        have := congrArg List.length (unhide hl)
        rw [List.length_append] at this
        omega
      by_cases h128 : u < 128
      · have hl1 := unhide hl
        rw [vnum_low h128] at hl1
        have e8 : (l'.map V8) ++ [Value.int .u8 (u : Nat)] = G.map V8 := by rw [← hl1, List.map_append, V8_mk u (by omega)]; rfl
        have hgl : n + 1 = G.length := by rw [← hl1]; simp [hn]
        have E8 := hide e8
        have HGL := hide hgl
        clear hl hl1 e8 hgl
        go_wp2_with (first | ((with_reducible refine wl_shape ?_); first | (apply wl_boxa; exact rfl; exact hM; exact rfl; exact rfl; clear hM; intro gg ww hM; simp only [putT, List.set_cons_succ, List.set_cons_zero]) | (apply wl_box1; exact rfl; exact hM; exact rfl; exact rfl; exact rfl; clear hM; intro gg ww hM; simp only [putT, List.set_cons_succ, List.set_cons_zero]) | (apply wl_alloc; exact rfl; exact hM; exact rfl; exact inferInstance; clear hM; intro gg ww hM; simp only [putT, List.set_cons_succ, List.set_cons_zero]) | (apply wl_ld; exact rfl; exact hM; exact rfl; exact rfl; exact inferInstance; exact inferInstance; simp only [putT, List.set_cons_succ, List.set_cons_zero]) | (apply wl_lda; exact rfl; exact hM; exact rfl; exact rfl; exact inferInstance; exact inferInstance; exact inferInstance; exact inferInstance; simp only [putT, List.set_cons_succ, List.set_cons_zero]) | (apply wl_ldr; exact rfl; exact hM; exact rfl; exact rfl; exact inferInstance; exact inferInstance; exact inferInstance; exact inferInstance; simp only [putT, List.set_cons_succ, List.set_cons_zero]) | (apply wl_st; exact rfl; exact hM; exact rfl; exact rfl; exact rfl; exact rfl; exact inferInstance; exact inferInstance; clear hM; intro ww hM; simp only [putT, List.set_cons_succ, List.set_cons_zero]) | (apply wl_sta; exact rfl; exact hM; exact rfl; exact rfl; exact rfl; exact all_oneCell_toArray One.out; exact inferInstance; exact inferInstance; exact inferInstance; clear hM; intro ww hM; simp only [putT, List.set_cons_succ, List.set_cons_zero]) | (apply wl_bs0; exact rfl; exact hM; exact rfl; exact inferInstance; clear hM; intro gg ww hM; simp only [putT, List.set_cons_succ, List.set_cons_zero]) | (apply wl_bs1a; exact rfl; exact hM; exact rfl; exact inferInstance; exact rfl; exact inferInstance; clear hM; intro gg ww hM; simp only [putT, List.set_cons_succ, List.set_cons_zero]) | (apply wl_bs11; exact rfl; exact hM; exact rfl; exact inferInstance; exact rfl; exact rfl; clear hM; intro gg ww hM; simp only [putT, List.set_cons_succ, List.set_cons_zero]) | (apply wl_conv; exact rfl; exact hM; exact rfl; exact rfl; exact inferInstance; exact inferInstance; simp only [putT, List.set_cons_succ, List.set_cons_zero])) | (apply wl_app; exact rfl; exact hM; exact rfl; exact inferInstance; exact rfl; exact rfl; exact inferInstance; exact One.out; exact inferInstance; (unfold maxLen; omega); omega; exact rfl; exact (unhide E8); clear hM; intro A4 c4 ww hM; simp only [List.set_cons_succ, List.set_cons_zero] at hM; simp only [putT, List.set_cons_succ, List.set_cons_zero]))
        go_ret
        exact ⟨A4, c4, by rw [← unhide HGL]; rfl, by rw [← unhide HGL]; exact hM.tail⟩
      · have hl1 := unhide hl
        rw [vnum_high (by omega)] at hl1
        have e8 : (l'.map V8) ++ [Value.int .u8 ((u % 128 + 128 : Nat) : Int)] = (l' ++ [BitVec.ofNat 8 (u % 128 + 128)]).map V8 := by rw [List.map_append, V8_mk (u % 128 + 128) (by omega)]; rfl
        have HL1 := hide hl1
        have E8 := hide e8
        have hor := u8_or2 u
        have hand := and127 u (by omega)
        clear hl hl1 e8
        go_wp2_with (first | ((with_reducible refine wl_shape ?_); first | (apply wl_boxa; exact rfl; exact hM; exact rfl; exact rfl; clear hM; intro gg ww hM; simp only [putT, List.set_cons_succ, List.set_cons_zero]) | (apply wl_box1; exact rfl; exact hM; exact rfl; exact rfl; exact rfl; clear hM; intro gg ww hM; simp only [putT, List.set_cons_succ, List.set_cons_zero]) | (apply wl_alloc; exact rfl; exact hM; exact rfl; exact inferInstance; clear hM; intro gg ww hM; simp only [putT, List.set_cons_succ, List.set_cons_zero]) | (apply wl_ld; exact rfl; exact hM; exact rfl; exact rfl; exact inferInstance; exact inferInstance; simp only [putT, List.set_cons_succ, List.set_cons_zero]) | (apply wl_lda; exact rfl; exact hM; exact rfl; exact rfl; exact inferInstance; exact inferInstance; exact inferInstance; exact inferInstance; simp only [putT, List.set_cons_succ, List.set_cons_zero]) | (apply wl_ldr; exact rfl; exact hM; exact rfl; exact rfl; exact inferInstance; exact inferInstance; exact inferInstance; exact inferInstance; simp only [putT, List.set_cons_succ, List.set_cons_zero]) | (apply wl_st; exact rfl; exact hM; exact rfl; exact rfl; exact rfl; exact rfl; exact inferInstance; exact inferInstance; clear hM; intro ww hM; simp only [putT, List.set_cons_succ, List.set_cons_zero]) | (apply wl_sta; exact rfl; exact hM; exact rfl; exact rfl; exact rfl; exact all_oneCell_toArray One.out; exact inferInstance; exact inferInstance; exact inferInstance; clear hM; intro ww hM; simp only [putT, List.set_cons_succ, List.set_cons_zero]) | (apply wl_bs0; exact rfl; exact hM; exact rfl; exact inferInstance; clear hM; intro gg ww hM; simp only [putT, List.set_cons_succ, List.set_cons_zero]) | (apply wl_bs1a; exact rfl; exact hM; exact rfl; exact inferInstance; exact rfl; exact inferInstance; clear hM; intro gg ww hM; simp only [putT, List.set_cons_succ, List.set_cons_zero]) | (apply wl_bs11; exact rfl; exact hM; exact rfl; exact inferInstance; exact rfl; exact rfl; clear hM; intro gg ww hM; simp only [putT, List.set_cons_succ, List.set_cons_zero]) | (apply wl_conv; exact rfl; exact hM; exact rfl; exact rfl; exact inferInstance; exact inferInstance; simp only [putT, List.set_cons_succ, List.set_cons_zero])) | (rw [hand]) | (rw [hor]) | (apply wl_app; exact rfl; exact hM; exact rfl; exact inferInstance; exact rfl; exact rfl; exact inferInstance; exact One.out; exact inferInstance; (unfold maxLen; omega); omega; exact rfl; exact (unhide E8); clear hM; intro A4 c4 ww hM; simp only [List.set_cons_succ, List.set_cons_zero] at hM; simp only [putT, List.set_cons_succ, List.set_cons_zero]))
        go_roundw
        case rel => exact ⟨u / 128, _, c4, _, A4, by omega, by go_num, rfl, by simp [hn], hide (by rw [← unhide HL1]; simp), hM.tail⟩
        case measure => simp [intOf]; omega
end
section
open Go.RowKit Go.MapKept
set_option linter.unusedSimpArgs false
set_option linter.unusedVariables false
attribute [local irreducible] wpList Code.wp GW Calls
set_option maxRecDepth 100000 in
set_option maxHeartbeats 4000000 in
theorem RNums_any {w0 w : World} {own : Nat → Prop} {L : List Item} {m d : Nat} {B : Option Addr} {xs : List Int} (hM : Mem w0 own w L) (hm : xs.length = m)
    (HX : ∀ w', Mem w0 own w' L → Reads w' w'.heap.size 1 B m (xs.map (Value.int .i64))) (hG : m ≤ 100000000000) :
    Calls Try.prog 40 #[.slice B m d] w fun e w' => ∃ A c, e = .returned (.slice A (numsB xs).length c) ∧
      Mem w0 own w' (.row (.slice A (numsB xs).length c) 5 1 (numsB xs).length ((numsB xs).map V8) :: L) := by
  obtain ⟨G, hGe⟩ : ∃ G, G = numsB xs := ⟨_, rfl⟩
  have hGl : G.length ≤ 900000000000 := by
    have := numsB_len xs
    rw [hGe]
    omega
  rw [← hGe]
  have HG := hide hGe
  clear hGe
  replace hM := hM.pushNil 5 1
  go_enter Try.func40, Try.ntmps40
  go_wp2_with (first | ((with_reducible refine wl_shape ?_); first | (apply wl_boxa; exact rfl; exact hM; exact rfl; exact rfl; clear hM; intro gg ww hM; simp only [putT, List.set_cons_succ, List.set_cons_zero]) | (apply wl_box1; exact rfl; exact hM; exact rfl; exact rfl; exact rfl; clear hM; intro gg ww hM; simp only [putT, List.set_cons_succ, List.set_cons_zero]) | (apply wl_alloc; exact rfl; exact hM; exact rfl; exact inferInstance; clear hM; intro gg ww hM; simp only [putT, List.set_cons_succ, List.set_cons_zero]) | (apply wl_ld; exact rfl; exact hM; exact rfl; exact rfl; exact inferInstance; exact inferInstance; simp only [putT, List.set_cons_succ, List.set_cons_zero]) | (apply wl_lda; exact rfl; exact hM; exact rfl; exact rfl; exact inferInstance; exact inferInstance; exact inferInstance; exact inferInstance; simp only [putT, List.set_cons_succ, List.set_cons_zero]) | (apply wl_ldr; exact rfl; exact hM; exact rfl; exact rfl; exact inferInstance; exact inferInstance; exact inferInstance; exact inferInstance; simp only [putT, List.set_cons_succ, List.set_cons_zero]) | (apply wl_st; exact rfl; exact hM; exact rfl; exact rfl; exact rfl; exact rfl; exact inferInstance; exact inferInstance; clear hM; intro ww hM; simp only [putT, List.set_cons_succ, List.set_cons_zero]) | (apply wl_sta; exact rfl; exact hM; exact rfl; exact rfl; exact rfl; exact all_oneCell_toArray One.out; exact inferInstance; exact inferInstance; exact inferInstance; clear hM; intro ww hM; simp only [putT, List.set_cons_succ, List.set_cons_zero]) | (apply wl_bs0; exact rfl; exact hM; exact rfl; exact inferInstance; clear hM; intro gg ww hM; simp only [putT, List.set_cons_succ, List.set_cons_zero]) | (apply wl_bs1a; exact rfl; exact hM; exact rfl; exact inferInstance; exact rfl; exact inferInstance; clear hM; intro gg ww hM; simp only [putT, List.set_cons_succ, List.set_cons_zero]) | (apply wl_bs11; exact rfl; exact hM; exact rfl; exact inferInstance; exact rfl; exact rfl; clear hM; intro gg ww hM; simp only [putT, List.set_cons_succ, List.set_cons_zero]) | (apply wl_conv; exact rfl; exact hM; exact rfl; exact rfl; exact inferInstance; exact inferInstance; simp only [putT, List.set_cons_succ, List.set_cons_zero])))
  have HM := hide hM
  go_loopw [3, 4] (fun bb ii wr => ∃ (k n c : Nat) (l' : List (BitVec 8)) (A : Option Addr), k ≤ m ∧ ii = .int .i64 k ∧ bb = .slice A n c ∧ l'.length = n ∧ Hid (l' ++ numsB (xs.drop k) = G) ∧ Mem w0 own wr (.row (.slice A n c) 5 1 n (l'.map V8) :: L)) (fun _ ii _ => m - (intOf ii).toNat)
  case atStart => exact ⟨0, 0, 0, [], none, Nat.zero_le _, by go_num, rfl, rfl, hide (unhide HG).symm, hM⟩
  case round =>
    clear hM HM HG
    obtain ⟨k, n, c, l', A, hk, rfl, rfl, hn, hl, hM⟩ := hrel
    by_cases hlt : k < m
    · obtain ⟨x, hx⟩ : ∃ x, xs[k]? = some x := ⟨_, List.getElem?_eq_getElem (by omega)⟩
      obtain ⟨b, off, rfl, -, -⟩ := reads_cell (HX _ hM.tail) k (by simp; omega) (by simp; omega)
      have c1 : ∀ (L' : List Item) [HasTail L' L], Cell w0 own L' ⟨b, off + k, none⟩ (.int .i64 x) := fun L' h => ⟨fun w hM => by
        obtain ⟨b', off', e, -, hc⟩ := reads_cell (HX _ (h.out hM)) k (by simp; omega) (by simp; omega)
        injection e with e
        injection e with e1 e2 _
        subst e1
        subst e2
        rw [hc]
        simp only [List.getElem_map]
        rw [(List.getElem?_eq_some_iff.1 hx).2]⟩
      have hd : numsB (xs.drop k) = numB x ++ numsB (xs.drop (k + 1)) := by
        rw [List.drop_eq_getElem_cons (by omega), (List.getElem?_eq_some_iff.1 hx).2, numsB_cons]
      have hl1 := unhide hl
      rw [hd] at hl1
      obtain ⟨q, hq⟩ : ∃ q, q = numB x := ⟨_, rfl⟩
      have hq9 : q.length ≤ 9 := by rw [hq]; exact numB_len x
      rw [← hq] at hl1
      have HQ := hide hq
      have HL := hide hl1
      have hnl : n ≤ 900000000000 := by
        have := congrArg List.length hl1
        rw [List.length_append] at this
        omega
      have hcel : l'.map V8 ++ q.map V8 = (l' ++ q).map V8 := by rw [List.map_append]
      have HC := hide hcel
      clear hd hl hl1 hx hq hcel
      go_wp2_with (first
        | ((with_reducible refine wl_shape ?_); first | (apply wl_boxa; exact rfl; exact hM; exact rfl; exact rfl; clear hM; intro gg ww hM; simp only [putT, List.set_cons_succ, List.set_cons_zero]) | (apply wl_box1; exact rfl; exact hM; exact rfl; exact rfl; exact rfl; clear hM; intro gg ww hM; simp only [putT, List.set_cons_succ, List.set_cons_zero]) | (apply wl_alloc; exact rfl; exact hM; exact rfl; exact inferInstance; clear hM; intro gg ww hM; simp only [putT, List.set_cons_succ, List.set_cons_zero]) | (apply wl_ld; exact rfl; exact hM; exact rfl; exact rfl; exact inferInstance; exact inferInstance; simp only [putT, List.set_cons_succ, List.set_cons_zero]) | (apply wl_lda; exact rfl; exact hM; exact rfl; exact rfl; exact inferInstance; exact inferInstance; exact inferInstance; exact inferInstance; simp only [putT, List.set_cons_succ, List.set_cons_zero]) | (apply wl_ldr; exact rfl; exact hM; exact rfl; exact rfl; exact inferInstance; exact inferInstance; exact inferInstance; exact inferInstance; simp only [putT, List.set_cons_succ, List.set_cons_zero]) | (apply wl_st; exact rfl; exact hM; exact rfl; exact rfl; exact rfl; exact rfl; exact inferInstance; exact inferInstance; clear hM; intro ww hM; simp only [putT, List.set_cons_succ, List.set_cons_zero]) | (apply wl_sta; exact rfl; exact hM; exact rfl; exact rfl; exact rfl; exact all_oneCell_toArray One.out; exact inferInstance; exact inferInstance; exact inferInstance; clear hM; intro ww hM; simp only [putT, List.set_cons_succ, List.set_cons_zero]) | (apply wl_bs0; exact rfl; exact hM; exact rfl; exact inferInstance; clear hM; intro gg ww hM; simp only [putT, List.set_cons_succ, List.set_cons_zero]) | (apply wl_bs1a; exact rfl; exact hM; exact rfl; exact inferInstance; exact rfl; exact inferInstance; clear hM; intro gg ww hM; simp only [putT, List.set_cons_succ, List.set_cons_zero]) | (apply wl_bs11; exact rfl; exact hM; exact rfl; exact inferInstance; exact rfl; exact rfl; clear hM; intro gg ww hM; simp only [putT, List.set_cons_succ, List.set_cons_zero]) | (apply wl_conv; exact rfl; exact hM; exact rfl; exact rfl; exact inferInstance; exact inferInstance; simp only [putT, List.set_cons_succ, List.set_cons_zero]))
        | (go_at_call 41; refine (RNum_any hM x).mono ?_; rw [← unhide HQ]; rintro e1 w1 ⟨A1, c1, rfl, hM1⟩; clear hM; have hM := hM1; clear hM1; (try simp only [List.set_cons_succ, List.set_cons_zero] at hM))
        | (apply wl_appr; exact rfl; exact hM; exact rfl; exact inferInstance; exact rfl; exact rfl; exact (Reads.of_own (hM.row 0 rfl)); exact One.out; exact inferInstance; (unfold maxLen; omega); omega; exact rfl; exact (unhide HC); clear hM; intro A4 c4 ww hM; simp only [List.set_cons_succ, List.set_cons_zero] at hM; simp only [putT, List.set_cons_succ, List.set_cons_zero]))
      go_roundw
      case rel => exact ⟨k + 1, _, c4, _, A4, by omega, by go_num, rfl, by simp [hn], hide (by rw [← unhide HL, List.append_assoc]), hM.tail⟩
      case measure => simp [intOf]; omega
    · have e : k = m := by omega
      subst e
      have hl1 := unhide hl
      rw [List.drop_of_length_le (by omega)] at hl1
      have e2 : l' = G := by rw [← hl1]; simp [numsB]
      subst e2
      subst hn
      go_wp2_with (first | ((with_reducible refine wl_shape ?_); first | (apply wl_boxa; exact rfl; exact hM; exact rfl; exact rfl; clear hM; intro gg ww hM; simp only [putT, List.set_cons_succ, List.set_cons_zero]) | (apply wl_box1; exact rfl; exact hM; exact rfl; exact rfl; exact rfl; clear hM; intro gg ww hM; simp only [putT, List.set_cons_succ, List.set_cons_zero]) | (apply wl_alloc; exact rfl; exact hM; exact rfl; exact inferInstance; clear hM; intro gg ww hM; simp only [putT, List.set_cons_succ, List.set_cons_zero]) | (apply wl_ld; exact rfl; exact hM; exact rfl; exact rfl; exact inferInstance; exact inferInstance; simp only [putT, List.set_cons_succ, List.set_cons_zero]) | (apply wl_lda; exact rfl; exact hM; exact rfl; exact rfl; exact inferInstance; exact inferInstance; exact inferInstance; exact inferInstance; simp only [putT, List.set_cons_succ, List.set_cons_zero]) | (apply wl_ldr; exact rfl; exact hM; exact rfl; exact rfl; exact inferInstance; exact inferInstance; exact inferInstance; exact inferInstance; simp only [putT, List.set_cons_succ, List.set_cons_zero]) | (apply wl_st; exact rfl; exact hM; exact rfl; exact rfl; exact rfl; exact rfl; exact inferInstance; exact inferInstance; clear hM; intro ww hM; simp only [putT, List.set_cons_succ, List.set_cons_zero]) | (apply wl_sta; exact rfl; exact hM; exact rfl; exact rfl; exact rfl; exact all_oneCell_toArray One.out; exact inferInstance; exact inferInstance; exact inferInstance; clear hM; intro ww hM; simp only [putT, List.set_cons_succ, List.set_cons_zero]) | (apply wl_bs0; exact rfl; exact hM; exact rfl; exact inferInstance; clear hM; intro gg ww hM; simp only [putT, List.set_cons_succ, List.set_cons_zero]) | (apply wl_bs1a; exact rfl; exact hM; exact rfl; exact inferInstance; exact rfl; exact inferInstance; clear hM; intro gg ww hM; simp only [putT, List.set_cons_succ, List.set_cons_zero]) | (apply wl_bs11; exact rfl; exact hM; exact rfl; exact inferInstance; exact rfl; exact rfl; clear hM; intro gg ww hM; simp only [putT, List.set_cons_succ, List.set_cons_zero]) | (apply wl_conv; exact rfl; exact hM; exact rfl; exact rfl; exact inferInstance; exact inferInstance; simp only [putT, List.set_cons_succ, List.set_cons_zero])))
      go_ret
      exact ⟨A, c, rfl, hM⟩
end
section
open Go.RowKit Go.MapKept
set_option linter.unusedSimpArgs false
set_option linter.unusedVariables false
def IntV (xs : List Int) (w0 : World) (own : Nat → Prop) (L : List Item) (x : Value) (w : World) : Prop := ∃ A c, x = .slice A xs.length c ∧ Mem w0 own w (.row (.slice A xs.length c) 3 1 xs.length (xs.map (Value.int .i64)) :: L)
attribute [local irreducible] wpList Code.wp GW Calls
set_option maxRecDepth 100000 in
set_option maxHeartbeats 4000000 in
theorem RVoteBody_any {w0 w : World} {own : Nat → Prop} {L : List Item} {v : Vt} (hM : Mem w0 own w L) (hv : v.Ok) :
    Calls Try.prog 28 #[.agg (vtc v).toArray] w fun e w' => ∃ A c, e = .returned (.slice A (voteB v).length c) ∧ Mem w0 own w' (.row (.slice A (voteB v).length c) 5 1 (voteB v).length ((voteB v).map V8) :: L) := by
  have a0 : AtA (vtc v).toArray 0 (.int .i64 v.k) := ⟨rfl⟩
  have a1 : AtA (vtc v).toArray 1 (.int .i64 v.s) := ⟨rfl⟩
  have a2 : AtA (vtc v).toArray 2 (.int .i64 v.v) := ⟨rfl⟩
  have a3 : AtA (vtc v).toArray 35 (.int .i64 v.f) := ⟨by simpa using vtc_35 hv⟩
  have z1 : SzA (vtc v).toArray 68 := ⟨by simpa using vtc_len hv⟩
  obtain ⟨vb, hvb⟩ : ∃ vb, vb = voteB v := ⟨_, rfl⟩
  have hn1 : (numsB [5, v.k, v.s, v.v]).length ≤ 36 := numsB_len _
  have hn2 : (numB v.f).length ≤ 9 := numB_len _
  have hsm := hv.sum
  obtain ⟨q1, hq1⟩ : ∃ q, q = numsB [5, v.k, v.s, v.v] := ⟨_, rfl⟩
  obtain ⟨q2, hq2⟩ : ∃ q, q = q1 ++ v.sum := ⟨_, rfl⟩
  obtain ⟨q3, hq3⟩ : ∃ q, q = numB v.f := ⟨_, rfl⟩
  have hvb2 : vb = q2 ++ q3 := by rw [hvb, hq2, hq1, hq3]; simp [voteB, numsB]
  have hl2 : q1.length + 32 = q2.length := by rw [hq2, List.length_append, hsm]
  have hl3 : q2.length + q3.length = vb.length := by rw [hvb2, List.length_append]
  have hc2 : q1.map V8 ++ v.sum.map V8 = q2.map V8 := by rw [hq2, List.map_append]
  have hc3 : q2.map V8 ++ q3.map V8 = vb.map V8 := by rw [hvb2, List.map_append]
  rw [← hq1] at hn1
  rw [← hq3] at hn2
  rw [← hvb]
  have hb2 : q2.length ≤ 100 := by omega
  have HQ1 := hide hq1
  have HQ3 := hide hq3
  have HL2 := hide hl2
  have HL3 := hide hl3
  have HC2 := hide hc2
  have HC3 := hide hc3
  clear hq1 hq2 hq3 hvb hvb2 hl2 hl3 hc2 hc3 hsm
  go_enter Try.func28, Try.ntmps28
  go_wp2_with (first | ((with_reducible refine wl_shape ?_); first | (apply wl_boxa; exact rfl; exact hM; exact rfl; exact rfl; clear hM; intro gg ww hM; simp only [putT, List.set_cons_succ, List.set_cons_zero]) | (apply wl_box1; exact rfl; exact hM; exact rfl; exact rfl; exact rfl; clear hM; intro gg ww hM; simp only [putT, List.set_cons_succ, List.set_cons_zero]) | (apply wl_alloc; exact rfl; exact hM; exact rfl; exact inferInstance; clear hM; intro gg ww hM; simp only [putT, List.set_cons_succ, List.set_cons_zero]) | (apply wl_ld; exact rfl; exact hM; exact rfl; exact rfl; exact inferInstance; exact inferInstance; simp only [putT, List.set_cons_succ, List.set_cons_zero]) | (apply wl_lda; exact rfl; exact hM; exact rfl; exact rfl; exact inferInstance; exact inferInstance; exact inferInstance; exact inferInstance; simp only [putT, List.set_cons_succ, List.set_cons_zero]) | (apply wl_ldr; exact rfl; exact hM; exact rfl; exact rfl; exact inferInstance; exact inferInstance; exact inferInstance; exact inferInstance; simp only [putT, List.set_cons_succ, List.set_cons_zero]) | (apply wl_st; exact rfl; exact hM; exact rfl; exact rfl; exact rfl; exact rfl; exact inferInstance; exact inferInstance; clear hM; intro ww hM; simp only [putT, List.set_cons_succ, List.set_cons_zero]) | (apply wl_sta; exact rfl; exact hM; exact rfl; exact rfl; exact rfl; exact all_oneCell_toArray One.out; exact inferInstance; exact inferInstance; exact inferInstance; clear hM; intro ww hM; simp only [putT, List.set_cons_succ, List.set_cons_zero]) | (apply wl_bs0; exact rfl; exact hM; exact rfl; exact inferInstance; clear hM; intro gg ww hM; simp only [putT, List.set_cons_succ, List.set_cons_zero]) | (apply wl_bs1a; exact rfl; exact hM; exact rfl; exact inferInstance; exact rfl; exact inferInstance; clear hM; intro gg ww hM; simp only [putT, List.set_cons_succ, List.set_cons_zero]) | (apply wl_bs11; exact rfl; exact hM; exact rfl; exact inferInstance; exact rfl; exact rfl; clear hM; intro gg ww hM; simp only [putT, List.set_cons_succ, List.set_cons_zero]) | (apply wl_conv; exact rfl; exact hM; exact rfl; exact rfl; exact inferInstance; exact inferInstance; simp only [putT, List.set_cons_succ, List.set_cons_zero])))
  refine wp_region_mc [6, 7, 10] [6, 7, 10, 11] [11] hM (by kernel_rfl) (by kernel_rfl) (by kernel_rfl) (by kernel_rfl) ?_; simp only [initS, Act.put, List.setIfInBounds_toArray, List.set_cons_succ, List.set_cons_zero, List.map_cons, List.map_nil]
  clear hM
  repeat (first
    | (apply gm_move; (first | exact .inl rfl | exact .inr rfl); exact rfl; exact rfl; simp only [setD, List.set_cons_succ, List.set_cons_zero]) | (apply gm_ld; exact rfl; exact rfl; exact rfl; exact inferInstance; exact inferInstance; simp only [setD, List.set_cons_succ, List.set_cons_zero]) | (apply gm_lda; exact rfl; exact rfl; exact rfl; exact inferInstance; exact inferInstance; exact inferInstance; exact inferInstance; simp only [setD, List.set_cons_succ, List.set_cons_zero]) | (apply gm_ldr; exact rfl; exact rfl; exact rfl; exact inferInstance; exact inferInstance; exact inferInstance; exact inferInstance; simp only [setD, List.set_cons_succ, List.set_cons_zero]) | (apply gm_cmp true; exact rfl; exact rfl; exact rfl; exact rfl; (simp only [cmpB, Option.some.injEq, decide_eq_true_eq, ne_eq]; omega); simp only [setD, List.set_cons_succ, List.set_cons_zero]) | (apply gm_cmp false; exact rfl; exact rfl; exact rfl; exact rfl; (simp only [cmpB, Option.some.injEq, decide_eq_false_iff_not, ne_eq]; omega); simp only [setD, List.set_cons_succ, List.set_cons_zero]) | (apply gm_pick; exact rfl; exact rfl; exact rfl; exact rfl; exact rfl; simp only [setD, List.set_cons_succ, List.set_cons_zero, cond_true, cond_false]) | (apply gm_skip; exact rfl; simp only [setD, List.set_cons_succ, List.set_cons_zero]) | (apply gm_skipU; exact rfl; exact rfl; exact rfl; exact rfl; simp only [setD, List.set_cons_succ, List.set_cons_zero]) | (apply gm_moveP; (first | exact .inl rfl | exact .inr rfl); exact rfl; exact rfl; exact rfl; simp only [setD, List.set_cons_succ, List.set_cons_zero]) | (apply gm_pure; exact rfl; intro K hK; go_simp; refine hK _ ?_; clear hK K; simp only [setD, List.set_cons_succ, List.set_cons_zero])
    | (refine gm_wp (IntV [5, v.k, v.s, v.v]) rfl (by decide) (by decide) rfl (by simp) (fun γ w' hC hP => ?_) ?_; (focus (simp only [slAct, slVals, Slot.get]; have hM := hC; go_wp2_with (first | (refine wpList_buildSlice_row rfl 83 4 _ rfl hM 3 Try.underlying83 _ 1 8 introw (by decide) (by decide) [.int .i64 5, .int .i64 v.k, .int .i64 v.s, .int .i64 v.v] (by kernel_rfl) rfl ?_; clear hM; intro gg ww hM; simp only [Act.put, List.setIfInBounds_toArray, List.set_cons_succ, List.set_cons_zero])); exact ⟨hM.tail, _, _, rfl, hM⟩)); simp only [setD, List.set_cons_succ, List.set_cons_zero])
    | (refine gm_wp (RowV q1) rfl (by decide) (by decide) rfl (by simp) (fun γ w' hC hP => ?_) ?_; (focus (simp only [slAct, slVals, Slot.get]; obtain ⟨A1, c1, e1, hM1⟩ := hP 10 (IntV [5, v.k, v.s, v.v] _ _ _) rfl rfl; rw [e1]; go_wp2_with (first | (go_at_call 40; refine (RNums_any (xs := [5, v.k, v.s, v.v]) hM1 rfl (fun w' h => Reads.of_own (h.row 0 rfl)) (by simp)).mono ?_; rw [← unhide HQ1]; rintro e1 w1 ⟨A2, c2, rfl, hM2⟩)); exact ⟨hM2.tail.tail, A2, c2, rfl, hM2.sub (List.Sublist.cons_cons _ (List.sublist_cons_self ..))⟩)); simp only [setD, List.set_cons_succ, List.set_cons_zero])
    | (refine gm_wp (RowV q2) rfl (by decide) (by decide) rfl (by simp) (fun γ w' hC hP => ?_) ?_; (focus (simp only [slAct, slVals, Slot.get]; obtain ⟨A1, c1, e1, hM⟩ := hP 11 (RowV q1 _ _ _) rfl rfl; rw [e1]; go_wp2_with (first | (apply wl_appr; exact rfl; exact hM; exact rfl; exact inferInstance; exact rfl; exact rfl; exact (vote_sum hv (hC.blk 0 rfl)); exact One.out; exact inferInstance; (unfold maxLen; omega); omega; exact (unhide HL2); exact (unhide HC2); clear hM; intro A4 c4 ww hM; simp only [List.set_cons_succ, List.set_cons_zero] at hM; simp only [putT, List.set_cons_succ, List.set_cons_zero])); exact ⟨hM.tail, A4, c4, rfl, hM⟩)); simp only [setD, List.set_cons_succ, List.set_cons_zero]))
  refine gw_nil ?_; intro γ w4 hC' hk'; simp only [slAct, slVals, Slot.get]
  obtain ⟨A1, c1, e1, hM⟩ : RowV q2 _ _ _ _ _ := hk' 11 3 _ rfl rfl rfl
  clear hk' hC'
  rw [e1]
  clear e1
  go_wp2_with (first
    | ((with_reducible refine wl_shape ?_); first | (apply wl_boxa; exact rfl; exact hM; exact rfl; exact rfl; clear hM; intro gg ww hM; simp only [putT, List.set_cons_succ, List.set_cons_zero]) | (apply wl_box1; exact rfl; exact hM; exact rfl; exact rfl; exact rfl; clear hM; intro gg ww hM; simp only [putT, List.set_cons_succ, List.set_cons_zero]) | (apply wl_alloc; exact rfl; exact hM; exact rfl; exact inferInstance; clear hM; intro gg ww hM; simp only [putT, List.set_cons_succ, List.set_cons_zero]) | (apply wl_ld; exact rfl; exact hM; exact rfl; exact rfl; exact inferInstance; exact inferInstance; simp only [putT, List.set_cons_succ, List.set_cons_zero]) | (apply wl_lda; exact rfl; exact hM; exact rfl; exact rfl; exact inferInstance; exact inferInstance; exact inferInstance; exact inferInstance; simp only [putT, List.set_cons_succ, List.set_cons_zero]) | (apply wl_ldr; exact rfl; exact hM; exact rfl; exact rfl; exact inferInstance; exact inferInstance; exact inferInstance; exact inferInstance; simp only [putT, List.set_cons_succ, List.set_cons_zero]) | (apply wl_st; exact rfl; exact hM; exact rfl; exact rfl; exact rfl; exact rfl; exact inferInstance; exact inferInstance; clear hM; intro ww hM; simp only [putT, List.set_cons_succ, List.set_cons_zero]) | (apply wl_sta; exact rfl; exact hM; exact rfl; exact rfl; exact rfl; exact all_oneCell_toArray One.out; exact inferInstance; exact inferInstance; exact inferInstance; clear hM; intro ww hM; simp only [putT, List.set_cons_succ, List.set_cons_zero]) | (apply wl_bs0; exact rfl; exact hM; exact rfl; exact inferInstance; clear hM; intro gg ww hM; simp only [putT, List.set_cons_succ, List.set_cons_zero]) | (apply wl_bs1a; exact rfl; exact hM; exact rfl; exact inferInstance; exact rfl; exact inferInstance; clear hM; intro gg ww hM; simp only [putT, List.set_cons_succ, List.set_cons_zero]) | (apply wl_bs11; exact rfl; exact hM; exact rfl; exact inferInstance; exact rfl; exact rfl; clear hM; intro gg ww hM; simp only [putT, List.set_cons_succ, List.set_cons_zero]) | (apply wl_conv; exact rfl; exact hM; exact rfl; exact rfl; exact inferInstance; exact inferInstance; simp only [putT, List.set_cons_succ, List.set_cons_zero]))
    | (go_at_call 41; refine (RNum_any hM v.f).mono ?_; rw [← unhide HQ3]; rintro e1 w1 ⟨A2, c2, rfl, hM1⟩; clear hM; have hM := hM1; clear hM1; (try simp only [List.set_cons_succ, List.set_cons_zero] at hM))
    | (apply wl_appr; exact rfl; exact hM; exact rfl; exact inferInstance; exact rfl; exact rfl; exact (Reads.of_own (hM.row 0 rfl)); exact One.out; exact inferInstance; (unfold maxLen; omega); omega; exact (unhide HL3); exact (unhide HC3); clear hM; intro A4 c4 ww hM; simp only [List.set_cons_succ, List.set_cons_zero] at hM; simp only [putT, List.set_cons_succ, List.set_cons_zero]))
  go_ret
  exact ⟨A4, c4, rfl, hM.sub (List.Sublist.cons _ (List.Sublist.cons_cons _ (List.sublist_cons_self ..)))⟩
end
section
open Go.RowKit Go.MapKept
set_option linter.unusedSimpArgs false
set_option linter.unusedVariables false
attribute [local irreducible] wpList Code.wp GW Calls
set_option maxRecDepth 100000 in
set_option maxHeartbeats 4000000 in
theorem RCast_any (w : World) (g c : Nat) (A : Option Addr) (ks : List (List (BitVec 8))) (k s v fr : Int) (sum : List (BitVec 8)) (h : RingIs w g A c 58 ks) (hs : sum.length = 32) :
    Calls Try.prog 11 #[.pointer (some ⟨g, 0, none⟩), .int .i64 k, .int .i64 s, .int .i64 v, .agg (hv sum), .int .i64 fr] w fun e w' => e = .returned (.agg (vtc (castOf ks k s v sum fr)).toArray) ∧ Grow w noOwn w' := by
  have hM := Mem.nil w noOwn
  have v1 : Vt.Ok ⟨k, s, v, sum, fr, zb32⟩ := ⟨hs, rfl⟩
  have z1 : SzA (vtc ⟨k, s, v, sum, fr, zb32⟩).toArray 68 := ⟨by simpa using vtc_len v1⟩
  have z2 : SzA (vtc ⟨0, 0, 0, zb32, 0, zb32⟩).toArray 68 := ⟨by simpa using vtc_len (v := ⟨0, 0, 0, zb32, 0, zb32⟩) ⟨rfl, rfl⟩⟩
  have z3 : SzA (hv sum) 32 := ⟨by rw [hv_size, hs]⟩
  go_enter Try.func11, Try.ntmps11
  have hseal : (sealOf ks fr (voteB ⟨k, s, v, sum, fr, zb32⟩)).length = 32 := sealOf_length _ _ _
  have z4 : SzA (vtc (castOf ks k s v sum fr)).toArray 68 := ⟨by simpa using vtc_len (castOf_ok ks k s v sum fr hs)⟩
  have z5 : SzA (hv (sealOf ks fr (voteB ⟨k, s, v, sum, fr, zb32⟩))) 32 := ⟨by rw [hv_size, hseal]⟩
  have hput : _ = (vtc (castOf ks k s v sum fr)).toArray := (vtc_put k s v fr sum zb32 (sealOf ks fr (voteB ⟨k, s, v, sum, fr, zb32⟩)) hs rfl).resolve_right (fun h => h hseal)
  have HP := hide hput
  clear hput
  obtain ⟨cv, hcv⟩ : ∃ cv, cv = castOf ks k s v sum fr := ⟨_, rfl⟩
  have HCV := hide hcv
  have HVL := hide (voteB_len ⟨k, s, v, sum, fr, zb32⟩ v1)
  obtain ⟨vb, hvb⟩ : ∃ vb, vb = voteB ⟨k, s, v, sum, fr, zb32⟩ := ⟨_, rfl⟩
  rw [← hcv] at z4 HP ⊢
  rw [← hvb] at z5 HP HVL hseal
  have HVB := hide hvb
  clear hcv hvb
  go_wp2_with (first
    | (refine wpList_alloc_mem hM rfl 32 rfl _ zeroV ?_; clear hM; intro gg ww hM)
    | (refine wpList_built rfl 32 _ rfl [(0, .int .i64 k), (1, .int .i64 s), (2, .int .i64 v), (3, .agg (hv sum)), (4, .int .i64 fr)] (vtc ⟨k, s, v, sum, fr, zb32⟩).toArray (by kernel_rfl) (built_vote k s v fr sum hs) ?_)
    | (refine wpList_store_mem rfl 32 _ _ rfl hM 0 _ _ _ (vtc ⟨k, s, v, sum, fr, zb32⟩).toArray rfl rfl rfl (by rw [sizeV, z1.out]) (by rw [z1.out, z2.out]) (vtc_all _) ?_; clear hM; intro ww hM _; simp only [List.set_cons_zero] at hM)
    | (refine wpList_store_part rfl 26 _ _ rfl hM 1 _ 36 _ _ (hv (sealOf ks fr vb)) (vtc cv).toArray rfl rfl rfl (size32 _ hseal) (by have := z1.out; have := z5.out; omega) (oneCells8 _) (unhide HP) ?_; clear hM; intro ww hM; simp only [List.set_cons_succ, List.set_cons_zero] at hM)
    | (refine wpList_store_mem rfl 32 _ _ rfl hM 2 _ _ _ (vtc cv).toArray rfl rfl rfl (by rw [sizeV, z4.out]) (by rw [z4.out, z2.out]) (vtc_all _) ?_; clear hM; intro ww hM _; simp only [List.set_cons_succ, List.set_cons_zero] at hM)
    | (go_at_call 28; refine (RVoteBody_any hM v1).mono ?_; rw [← unhide HVB]; rintro e1 w1 ⟨A1, c1, rfl, hM1⟩; clear hM; have hM := hM1; clear hM1; (try simp only [List.set_cons_succ, List.set_cons_zero] at hM))
    | (go_at_call 27; refine (RSeal_any _ g c _ _ A _ ks fr vb (h.grow hM.grow) (Reads.of_own (hM.row 0 rfl)) (by have := unhide HVL; omega)).mono ?_; rintro e1 w1 ⟨rfl, hg⟩; replace hM := hM.call hg; clear hg)
    | ((with_reducible refine wl_shape ?_); first | (apply wl_boxa; exact rfl; exact hM; exact rfl; exact rfl; clear hM; intro gg ww hM; simp only [putT, List.set_cons_succ, List.set_cons_zero]) | (apply wl_box1; exact rfl; exact hM; exact rfl; exact rfl; exact rfl; clear hM; intro gg ww hM; simp only [putT, List.set_cons_succ, List.set_cons_zero]) | (apply wl_alloc; exact rfl; exact hM; exact rfl; exact inferInstance; clear hM; intro gg ww hM; simp only [putT, List.set_cons_succ, List.set_cons_zero]) | (apply wl_ld; exact rfl; exact hM; exact rfl; exact rfl; exact inferInstance; exact inferInstance; simp only [putT, List.set_cons_succ, List.set_cons_zero]) | (apply wl_lda; exact rfl; exact hM; exact rfl; exact rfl; exact inferInstance; exact inferInstance; exact inferInstance; exact inferInstance; simp only [putT, List.set_cons_succ, List.set_cons_zero]) | (apply wl_ldr; exact rfl; exact hM; exact rfl; exact rfl; exact inferInstance; exact inferInstance; exact inferInstance; exact inferInstance; simp only [putT, List.set_cons_succ, List.set_cons_zero]) | (apply wl_st; exact rfl; exact hM; exact rfl; exact rfl; exact rfl; exact rfl; exact inferInstance; exact inferInstance; clear hM; intro ww hM; simp only [putT, List.set_cons_succ, List.set_cons_zero]) | (apply wl_sta; exact rfl; exact hM; exact rfl; exact rfl; exact rfl; exact all_oneCell_toArray One.out; exact inferInstance; exact inferInstance; exact inferInstance; clear hM; intro ww hM; simp only [putT, List.set_cons_succ, List.set_cons_zero]) | (apply wl_bs0; exact rfl; exact hM; exact rfl; exact inferInstance; clear hM; intro gg ww hM; simp only [putT, List.set_cons_succ, List.set_cons_zero]) | (apply wl_bs1a; exact rfl; exact hM; exact rfl; exact inferInstance; exact rfl; exact inferInstance; clear hM; intro gg ww hM; simp only [putT, List.set_cons_succ, List.set_cons_zero]) | (apply wl_bs11; exact rfl; exact hM; exact rfl; exact inferInstance; exact rfl; exact rfl; clear hM; intro gg ww hM; simp only [putT, List.set_cons_succ, List.set_cons_zero]) | (apply wl_conv; exact rfl; exact hM; exact rfl; exact rfl; exact inferInstance; exact inferInstance; simp only [putT, List.set_cons_succ, List.set_cons_zero])))
  exact bodyPost_row rfl rfl _ _ _ (hM.blk 2 rfl) rfl _ Try.underlying32 rfl (by rw [sizeV, z4.out]) ⟨rfl, hM.grow⟩
set_option maxRecDepth 100000 in
set_option maxHeartbeats 4000000 in
theorem RGood_any (w : World) (g c : Nat) (A : Option Addr) (ks : List (List (BitVec 8))) (v : Vt) (h : RingIs w g A c 58 ks) (hv : v.Ok) :
    Calls Try.prog 61 #[.pointer (some ⟨g, 0, none⟩), .agg (vtc v).toArray] w fun e w' => e = .returned (.bool (goodOf ks v)) ∧ Grow w noOwn w' := by
  have hM := Mem.nil w noOwn
  have a3 : AtA (vtc v).toArray 35 (.int .i64 v.f) := ⟨by simpa using vtc_35 hv⟩
  have z1 : SzA (vtc v).toArray 68 := ⟨by simpa using vtc_len hv⟩
  have z2 : SzL (v.tag.map V8) 32 := ⟨by simpa using hv.tag⟩
  have HVL := hide (voteB_len v hv)
  go_enter Try.func61, Try.ntmps61
  go_wp2_with (first | ((with_reducible refine wl_shape ?_); first | (apply wl_boxa; exact rfl; exact hM; exact rfl; exact rfl; clear hM; intro gg ww hM; simp only [putT, List.set_cons_succ, List.set_cons_zero]) | (apply wl_box1; exact rfl; exact hM; exact rfl; exact rfl; exact rfl; clear hM; intro gg ww hM; simp only [putT, List.set_cons_succ, List.set_cons_zero]) | (apply wl_alloc; exact rfl; exact hM; exact rfl; exact inferInstance; clear hM; intro gg ww hM; simp only [putT, List.set_cons_succ, List.set_cons_zero]) | (apply wl_ld; exact rfl; exact hM; exact rfl; exact rfl; exact inferInstance; exact inferInstance; simp only [putT, List.set_cons_succ, List.set_cons_zero]) | (apply wl_lda; exact rfl; exact hM; exact rfl; exact rfl; exact inferInstance; exact inferInstance; exact inferInstance; exact inferInstance; simp only [putT, List.set_cons_succ, List.set_cons_zero]) | (apply wl_ldr; exact rfl; exact hM; exact rfl; exact rfl; exact inferInstance; exact inferInstance; exact inferInstance; exact inferInstance; simp only [putT, List.set_cons_succ, List.set_cons_zero]) | (apply wl_st; exact rfl; exact hM; exact rfl; exact rfl; exact rfl; exact rfl; exact inferInstance; exact inferInstance; clear hM; intro ww hM; simp only [putT, List.set_cons_succ, List.set_cons_zero]) | (apply wl_sta; exact rfl; exact hM; exact rfl; exact rfl; exact rfl; exact all_oneCell_toArray One.out; exact inferInstance; exact inferInstance; exact inferInstance; clear hM; intro ww hM; simp only [putT, List.set_cons_succ, List.set_cons_zero]) | (apply wl_bs0; exact rfl; exact hM; exact rfl; exact inferInstance; clear hM; intro gg ww hM; simp only [putT, List.set_cons_succ, List.set_cons_zero]) | (apply wl_bs1a; exact rfl; exact hM; exact rfl; exact inferInstance; exact rfl; exact inferInstance; clear hM; intro gg ww hM; simp only [putT, List.set_cons_succ, List.set_cons_zero]) | (apply wl_bs11; exact rfl; exact hM; exact rfl; exact inferInstance; exact rfl; exact rfl; clear hM; intro gg ww hM; simp only [putT, List.set_cons_succ, List.set_cons_zero]) | (apply wl_conv; exact rfl; exact hM; exact rfl; exact rfl; exact inferInstance; exact inferInstance; simp only [putT, List.set_cons_succ, List.set_cons_zero])))
  have r1 : ∀ (L : List Item) (g : Nat) [HasBlk L g 32 (vtc v).toArray], Rng w noOwn L g 36 (v.tag.map V8) := fun L g _ => rng_tag hv
  refine wp_region_mc [4, 7] [4] [] hM (by kernel_rfl) (by kernel_rfl) (by kernel_rfl) (by kernel_rfl) ?_; simp only [initS, Act.put, List.setIfInBounds_toArray, List.set_cons_succ, List.set_cons_zero, List.map_cons, List.map_nil]
  repeat (first
    | (apply gm_move; (first | exact .inl rfl | exact .inr rfl); exact rfl; exact rfl; simp only [setD, List.set_cons_succ, List.set_cons_zero]) | (apply gm_ld; exact rfl; exact rfl; exact rfl; exact inferInstance; exact inferInstance; simp only [setD, List.set_cons_succ, List.set_cons_zero]) | (apply gm_lda; exact rfl; exact rfl; exact rfl; exact inferInstance; exact inferInstance; exact inferInstance; exact inferInstance; simp only [setD, List.set_cons_succ, List.set_cons_zero]) | (apply gm_ldr; exact rfl; exact rfl; exact rfl; exact inferInstance; exact inferInstance; exact inferInstance; exact inferInstance; simp only [setD, List.set_cons_succ, List.set_cons_zero]) | (apply gm_cmp true; exact rfl; exact rfl; exact rfl; exact rfl; (simp only [cmpB, Option.some.injEq, decide_eq_true_eq, ne_eq]; omega); simp only [setD, List.set_cons_succ, List.set_cons_zero]) | (apply gm_cmp false; exact rfl; exact rfl; exact rfl; exact rfl; (simp only [cmpB, Option.some.injEq, decide_eq_false_iff_not, ne_eq]; omega); simp only [setD, List.set_cons_succ, List.set_cons_zero]) | (apply gm_pick; exact rfl; exact rfl; exact rfl; exact rfl; exact rfl; simp only [setD, List.set_cons_succ, List.set_cons_zero, cond_true, cond_false]) | (apply gm_skip; exact rfl; simp only [setD, List.set_cons_succ, List.set_cons_zero]) | (apply gm_skipU; exact rfl; exact rfl; exact rfl; exact rfl; simp only [setD, List.set_cons_succ, List.set_cons_zero]) | (apply gm_moveP; (first | exact .inl rfl | exact .inr rfl); exact rfl; exact rfl; exact rfl; simp only [setD, List.set_cons_succ, List.set_cons_zero]) | (apply gm_pure; exact rfl; intro K hK; go_simp; refine hK _ ?_; clear hK K; simp only [setD, List.set_cons_succ, List.set_cons_zero])
    | (refine gm_wp (RowV (voteB v)) rfl (by decide) (by decide) rfl (by simp) (fun γ w' hC hP => ?_) ?_; (focus (simp only [slAct, slVals, Slot.get]; go_wp2_with (first | (go_at_call 28; refine (RVoteBody_any hC hv).mono ?_; rintro e1 w1 ⟨A1, c1, rfl, hM1⟩)); exact ⟨hM1.tail, A1, c1, rfl, hM1⟩)); simp only [setD, List.set_cons_succ, List.set_cons_zero])
    | (refine gm_wpV (.bool (goodOf ks v)) rfl (by decide) rfl (by simp) (fun γ w' hC hP => ?_) ?_; (focus (simp only [slAct, slVals, Slot.get]; obtain ⟨A1, c1, e1, hM1⟩ := hP 9 _ rfl rfl; rw [e1]; go_wp2_with (first | (go_at_call 69; refine (RCheck_any _ g c _ _ A _ ks v.f (voteB v) v.tag (h.grow hC.grow) (Reads.of_own (hM1.row 0 rfl)) (by have := unhide HVL; omega) hv.tag).mono ?_; rintro e1 w1 ⟨rfl, hg⟩)); exact ⟨hC.call hg, rfl⟩)); simp only [setD, List.set_cons_succ, List.set_cons_zero]))
  refine gw_nil ?_; intro γ w4 hC' hk'; simp only [slAct, slVals, Slot.get]
  clear hM
  have hM : Mem w noOwn w4 _ := hC'
  go_wp2_with (first | ((with_reducible refine wl_shape ?_); first | (apply wl_boxa; exact rfl; exact hM; exact rfl; exact rfl; clear hM; intro gg ww hM; simp only [putT, List.set_cons_succ, List.set_cons_zero]) | (apply wl_box1; exact rfl; exact hM; exact rfl; exact rfl; exact rfl; clear hM; intro gg ww hM; simp only [putT, List.set_cons_succ, List.set_cons_zero]) | (apply wl_alloc; exact rfl; exact hM; exact rfl; exact inferInstance; clear hM; intro gg ww hM; simp only [putT, List.set_cons_succ, List.set_cons_zero]) | (apply wl_ld; exact rfl; exact hM; exact rfl; exact rfl; exact inferInstance; exact inferInstance; simp only [putT, List.set_cons_succ, List.set_cons_zero]) | (apply wl_lda; exact rfl; exact hM; exact rfl; exact rfl; exact inferInstance; exact inferInstance; exact inferInstance; exact inferInstance; simp only [putT, List.set_cons_succ, List.set_cons_zero]) | (apply wl_ldr; exact rfl; exact hM; exact rfl; exact rfl; exact inferInstance; exact inferInstance; exact inferInstance; exact inferInstance; simp only [putT, List.set_cons_succ, List.set_cons_zero]) | (apply wl_st; exact rfl; exact hM; exact rfl; exact rfl; exact rfl; exact rfl; exact inferInstance; exact inferInstance; clear hM; intro ww hM; simp only [putT, List.set_cons_succ, List.set_cons_zero]) | (apply wl_sta; exact rfl; exact hM; exact rfl; exact rfl; exact rfl; exact all_oneCell_toArray One.out; exact inferInstance; exact inferInstance; exact inferInstance; clear hM; intro ww hM; simp only [putT, List.set_cons_succ, List.set_cons_zero]) | (apply wl_bs0; exact rfl; exact hM; exact rfl; exact inferInstance; clear hM; intro gg ww hM; simp only [putT, List.set_cons_succ, List.set_cons_zero]) | (apply wl_bs1a; exact rfl; exact hM; exact rfl; exact inferInstance; exact rfl; exact inferInstance; clear hM; intro gg ww hM; simp only [putT, List.set_cons_succ, List.set_cons_zero]) | (apply wl_bs11; exact rfl; exact hM; exact rfl; exact inferInstance; exact rfl; exact rfl; clear hM; intro gg ww hM; simp only [putT, List.set_cons_succ, List.set_cons_zero]) | (apply wl_conv; exact rfl; exact hM; exact rfl; exact rfl; exact inferInstance; exact inferInstance; simp only [putT, List.set_cons_succ, List.set_cons_zero])))
  go_ret
  exact ⟨rfl, hM.grow⟩
end
end Go.Proofs.Ytkcmnhmbpamehaa
