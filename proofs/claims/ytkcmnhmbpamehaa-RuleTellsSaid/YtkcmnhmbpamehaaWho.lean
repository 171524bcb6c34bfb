/- cert.Who and Meets. -/
import Derived.Test.YtkcmnhmbpamehaaOnI
import Derived.Test.YtkcmnhmbpamehaaSrt
namespace Go.Proofs.Ytkcmnhmbpamehaa
open Go.RowKit Go.MapKept
set_option linter.unusedSimpArgs false
set_option linter.unusedVariables false
theorem Mem.on {w0 w w' : World} {own : Nat → Prop} {L L2 : List Item} (hM : Mem w0 own w L) (h2 : Mem w noOwn w' L2) : Mem w0 own w' (L2 ++ L) := by
  have h1 := hM.call h2.grow
  refine ⟨h1.grow, fun x hx => ?_, List.pairwise_append.2 ⟨h2.apart, h1.apart, fun x hx y hy g hg hgy => ?_⟩, fun x hx g hg => ?_⟩
  · rcases List.mem_append.1 hx with h | h
    · exact h2.has x h
    · exact h1.has x h
  · rcases h2.mine x hx g hg with h | h
    · exact h
    · have := Item.at_lt (hM.has y hy) g hgy
      omega
  · rcases List.mem_append.1 hx with h | h
    · rcases h2.mine x h g hg with h3 | h3
      · exact h3.elim
      · exact .inr (Nat.le_trans hM.grow.size h3)
    · exact h1.mine x h g hg
/-- Each once, in the order in which they came. -/
def ddx (xs : List Int) : List Int := xs.foldl (fun acc x => if acc.contains x then acc else acc ++ [x]) []
theorem ddx_step {xs : List Int} {j : Nat} {x : Int} (h : xs[j]? = some x) : ddx (xs.take (j + 1)) = if (ddx (xs.take j)).contains x then ddx (xs.take j) else ddx (xs.take j) ++ [x] := by
  obtain ⟨hj, rfl⟩ := List.getElem?_eq_some_iff.1 h
  rw [List.take_succ_eq_append_getElem hj]
  unfold ddx
  rw [List.foldl_append]
  rfl
theorem ddx_len : ∀ (n : Nat) (xs : List Int), (ddx (xs.take n)).length ≤ n
  | 0, xs => by simp [ddx]
  | n + 1, xs => by
    have ih := ddx_len n xs
    by_cases h : n < xs.length
    · rw [ddx_step (List.getElem?_eq_getElem h)]
      split
      · omega
      · simp; omega
    · rw [List.take_of_length_le (by omega)] at ih ⊢
      omega
def whoOf (ks : List (List (BitVec 8))) (l : List Vt) (k s v : Int) (sum : List (BitVec 8)) : List Int := (ddx (onOf ks l k s v sum)).mergeSort leI
theorem onOf_len (ks : List (List (BitVec 8))) (l : List Vt) (k s v : Int) (sum : List (BitVec 8)) : (onOf ks l k s v sum).length ≤ 10 := by
  unfold onOf
  rw [List.length_map]
  have := List.length_filter_le (votes ks k s v sum) (l.take 10)
  rw [List.length_take] at this
  omega
theorem ddx_le {xs : List Int} (h : xs.length ≤ 10) : (ddx xs).length ≤ 10 := by
  have := ddx_len xs.length xs
  rw [List.take_length] at this
  omega
theorem contains_drop {xs : List Int} {k : Nat} {x y : Int} (h : xs[k]? = some y) : (xs.drop k).contains x = (decide (x = y) || (xs.drop (k + 1)).contains x) := by
  obtain ⟨hk, rfl⟩ := List.getElem?_eq_some_iff.1 h
  rw [List.drop_eq_getElem_cons hk, List.contains_cons]
  rfl
attribute [local irreducible] wpList Code.wp GW Calls
set_option maxRecDepth 100000 in
set_option maxHeartbeats 4000000 in
theorem Index_any {w : World} {B : Option Addr} {n c : Nat} {xs : List Int} (x : Int) (hb : Reads w w.heap.size 1 B n (xs.map (Value.int .i64))) (hn : xs.length = n) (hs : n ≤ 1000000000) :
    Calls Try.prog 66 #[.slice B n c, .int .i64 x] w fun e w' => (∃ i : Int, e = .returned (.int .i64 i) ∧ decide (0 ≤ i) = xs.contains x) ∧ w = w' := by
  obtain ⟨r, hr⟩ : ∃ r, r = xs.contains x := ⟨_, rfl⟩
  rw [← hr]
  go_enter Try.func66, Try.ntmps66
  go_wp2
  have HR := hide hr
  clear hr
  go_loopw [8] (fun i wr => ∃ q : Nat, q ≤ n ∧ i = .int .i64 q ∧ w = wr ∧ Hid (r = (xs.drop q).contains x)) (fun i _ => n - (intOf i).toNat)
  case atStart => exact ⟨0, Nat.zero_le _, by go_num, rfl, HR⟩
  case round =>
    clear HR
    obtain ⟨q, hq, rfl, rfl, HR⟩ := hrel
    by_cases hlt : q < n
    · obtain ⟨y, hy⟩ : ∃ y, xs[q]? = some y := ⟨_, List.getElem?_eq_getElem (by omega)⟩
      obtain ⟨b, off, rfl, -, hc⟩ := reads_cell hb q (by simp; omega) (by simp; omega)
      have hc2 : w.cell? ⟨b, off + q, none⟩ = some (.int .i64 y) := by
        rw [hc]
        simp only [List.getElem_map]
        rw [(List.getElem?_eq_some_iff.1 hy).2]
      have h1 := unhide HR
      rw [contains_drop hy] at h1
      have H1 := hide h1
      clear h1 hy hc
      by_cases hxy : x = y
      · have hrt : true = r := by rw [unhide H1]; simp [hxy]
        have HRT := hide hrt
        have HXY : (x == y) = true := beq_iff_eq.2 hxy
        clear hrt hxy
        go_wp2_with (first | (rw [HXY]))
        go_ret
        exact ⟨⟨q, rfl, by rw [← unhide HRT]; exact decide_eq_true (by omega)⟩, rfl⟩
      · have HXY : (x == y) = false := beq_eq_false_iff_ne.2 hxy
        have h2 : r = (xs.drop (q + 1)).contains x := by rw [unhide H1]; simp [hxy]
        have H2 := hide h2
        clear h2 hxy
        go_wp2_with (first | (rw [HXY]))
        go_roundw
        case rel => exact ⟨q + 1, by omega, by go_num, trivial, H2⟩
        case measure => simp [intOf]; omega
    · have hf : false = r := by rw [unhide HR, List.drop_of_length_le (by omega)]; rfl
      have HF := hide hf
      clear hf
      go_wp2
      go_ret
      exact ⟨⟨-1, rfl, by rw [← unhide HF]; rfl⟩, rfl⟩
set_option maxRecDepth 100000 in
set_option maxHeartbeats 4000000 in
theorem Contains_any {w : World} {B : Option Addr} {n c : Nat} {xs : List Int} (x : Int) (hb : Reads w w.heap.size 1 B n (xs.map (Value.int .i64))) (hn : xs.length = n) (hs : n ≤ 1000000000) :
    Calls Try.prog 58 #[.slice B n c, .int .i64 x] w fun e w' => e = .returned (.bool (xs.contains x)) ∧ w = w' := by
  obtain ⟨r, hr⟩ : ∃ r, r = xs.contains x := ⟨_, rfl⟩
  rw [← hr]
  have HR := hide hr
  clear hr
  go_enter Try.func58, Try.ntmps58
  go_wp2_with (first | (go_at_call 66; refine (Index_any x hb hn hs).mono ?_; rw [← unhide HR]; rintro e1 w1 ⟨⟨i, rfl, hi⟩, rfl⟩) | (rw [hi]))
  go_ret
  exact ⟨rfl, rfl⟩
set_option maxRecDepth 100000 in
set_option maxHeartbeats 4000000 in
theorem On_any {w0 w : World} {own : Nat → Prop} {L : List Item} {n cap : Nat} {B : Option Addr} {k s v : Int} {sum : List (BitVec 8)} (hM : Mem w0 own w L) (hsum : sum.length = 32) (R : Option Addr) :
    Calls Try.prog 57 #[.pointer R, .slice B n cap, .int .i64 k, .int .i64 s, .int .i64 v, .agg (hv sum)] w fun e w' => ∃ b1 b2 b3 b4 b5 b6, e = .returned (.func (.func 64) #[] #[.pointer (some ⟨b1, 0, none⟩), .pointer (some ⟨b2, 0, none⟩), .pointer (some ⟨b3, 0, none⟩), .pointer (some ⟨b4, 0, none⟩), .pointer (some ⟨b5, 0, none⟩), .pointer (some ⟨b6, 0, none⟩)]) ∧
      Mem w0 own w' (.blk b1 29 #[.slice B n cap] :: .blk b2 3 #[.int .i64 k] :: .blk b3 3 #[.int .i64 s] :: .blk b4 3 #[.int .i64 v] :: .blk b5 26 (hv sum) :: .blk b6 23 #[.pointer R] :: L) := by
  have z3 : SzA (hv sum) 32 := ⟨by rw [hv_size, hsum]⟩
  go_enter Try.func57, Try.ntmps57
  go_wp2_with (first | ((with_reducible refine wl_shape ?_); first | (apply wl_boxa; exact rfl; exact hM; exact rfl; exact rfl; clear hM; intro gg ww hM; simp only [putT, List.set_cons_succ, List.set_cons_zero]) | (apply wl_box1; exact rfl; exact hM; exact rfl; exact rfl; exact rfl; clear hM; intro gg ww hM; simp only [putT, List.set_cons_succ, List.set_cons_zero]) | (apply wl_alloc; exact rfl; exact hM; exact rfl; exact inferInstance; clear hM; intro gg ww hM; simp only [putT, List.set_cons_succ, List.set_cons_zero]) | (apply wl_ld; exact rfl; exact hM; exact rfl; exact rfl; exact inferInstance; exact inferInstance; simp only [putT, List.set_cons_succ, List.set_cons_zero]) | (apply wl_lda; exact rfl; exact hM; exact rfl; exact rfl; exact inferInstance; exact inferInstance; exact inferInstance; exact inferInstance; simp only [putT, List.set_cons_succ, List.set_cons_zero]) | (apply wl_ldr; exact rfl; exact hM; exact rfl; exact rfl; exact inferInstance; exact inferInstance; exact inferInstance; exact inferInstance; simp only [putT, List.set_cons_succ, List.set_cons_zero]) | (apply wl_st; exact rfl; exact hM; exact rfl; exact rfl; exact rfl; exact rfl; exact inferInstance; exact inferInstance; clear hM; intro ww hM; simp only [putT, List.set_cons_succ, List.set_cons_zero]) | (apply wl_sta; exact rfl; exact hM; exact rfl; exact rfl; exact rfl; exact all_oneCell_toArray One.out; exact inferInstance; exact inferInstance; exact inferInstance; clear hM; intro ww hM; simp only [putT, List.set_cons_succ, List.set_cons_zero]) | (apply wl_bs0; exact rfl; exact hM; exact rfl; exact inferInstance; clear hM; intro gg ww hM; simp only [putT, List.set_cons_succ, List.set_cons_zero]) | (apply wl_bs1a; exact rfl; exact hM; exact rfl; exact inferInstance; exact rfl; exact inferInstance; clear hM; intro gg ww hM; simp only [putT, List.set_cons_succ, List.set_cons_zero]) | (apply wl_bs11; exact rfl; exact hM; exact rfl; exact inferInstance; exact rfl; exact rfl; clear hM; intro gg ww hM; simp only [putT, List.set_cons_succ, List.set_cons_zero]) | (apply wl_conv; exact rfl; exact hM; exact rfl; exact rfl; exact inferInstance; exact inferInstance; simp only [putT, List.set_cons_succ, List.set_cons_zero])))
  go_ret
  have hp : ∀ (a1 a2 a3 a4 a5 a6 : Item), (a5 :: a4 :: a3 :: a2 :: a1 :: a6 :: L).Perm (a1 :: a2 :: a3 :: a4 :: a5 :: a6 :: L) := fun a1 a2 a3 a4 a5 a6 => by
    have := (List.reverse_perm [a1, a2, a3, a4, a5]).append_right (a6 :: L)
    simpa using this
  exact ⟨_, _, _, _, _, _, rfl, hM.perm (hp _ _ _ _ _ _)⟩
attribute [local go_sem] Oper.semAt_some
theorem wpListIn_call {F : Fence} [hF : WideF F] {n : Nat} {P : Program} {ops : Array Oper} {Q : Exit → Act → World → Prop} {rest : List Oper} {o : Oper} {a : Act} {w : World} (hgd : Region.wanted o (yielded ops a.tmps) = true) (f : Nat) (args : Array Value) (fn : Func) {xs : Array Operand} {ts : Array TypeId}
    (ho : o.op = .call { callee := .value (.func f), args := xs, argTypes := ts }) (hx : xs.toList.map a.eval = args.toList) (hf : P.funcs[f]? = some fn) (hn : (fn.name == "runtime.NumGoroutine") = false) (hb : fn.body.isNone = false)
    {R : Ending → World → Prop} (hc : Calls P f args w R) (hk : ∀ e w', R e w' → ∃ v, e = .returned v ∧ wpListIn F n P ops Q rest (a.put o.dst v) w') : wpListIn F n P ops Q (o :: rest) a w :=
  wpListIn_of1 (fun c e => by rw [ho] at e; cases e) (BigFrame.wpList_want hgd fun K hK => by
    have hr : (execOp a.eval o).run P w = .ok (.enter f args) w := (run_callOp ho rfl (by apply Array.ext'; rw [Array.toList_map]; exact hx) w).trans (run_callFunc hf hn hb args w)
    unfold Oper.wp
    rw [hr]
    refine hc.mono fun e w' h => ?_
    obtain ⟨v, rfl, h2⟩ := hk e w' h
    exact hK _ _ (wpListIn_end h2))
def intRow (A : Option Addr) (c : Nat) (out : List Int) : Item := .row (.slice A out.length c) 3 1 out.length (out.map (Value.int .i64))
theorem who_use {P : Program} {gf : Nat} {lb : Array Value} {w0 W1 : World} {own : Nat → Prop} {L : List Item} {x y : Item} {b l : Nat} {xs : List Int} (hx10 : xs.length ≤ 10) (hI : IterN P gf lb xs w0 own L) (hM : Mem w0 own W1 (x :: y :: .blk b 83 #[.slice none 0 0] :: L)) {R : Ending → World → Prop}
    (hY : ∀ (u : Int) (L' : List Item) (W : World) (A : Option Addr) (c : Nat) (out : List Int), out.length ≤ 10 → Mem w0 own W (intRow A c out :: x :: y :: .blk b 83 #[.slice A out.length c] :: L') →
      YieldAt Fence.wide 0 P l #[.int .i64 u] W fun e W' => e = .returned (.bool true) ∧ ∃ A' c', Mem w0 own W' (intRow A' c' (if out.contains u then out else out ++ [u]) :: x :: y :: .blk b 83 #[.slice A' (if out.contains u then out else out ++ [u]).length c'] :: L'))
    (hR : ∀ v A c W2, Mem w0 own W2 (intRow A c (ddx xs) :: x :: y :: .blk b 83 #[.slice A (ddx xs).length c] :: L) → R (.returned v) W2) :
    Calls P gf (#[.func (.yield l) #[] #[]] ++ lb) W1 R := by
  refine (hI l (fun j T => ∃ A c, T = [intRow A c (ddx (xs.take j)), x, y, .blk b 83 #[.slice A (ddx (xs.take j)).length c]]) W1 _ ⟨none, 0, rfl⟩ ?_ ?_).mono ?_
  · exact hM.pushNil 3 1
  · rintro j u T L' W hu ⟨A, c, rfl⟩ hMW
    have hj : j < xs.length := (List.getElem?_eq_some_iff.1 hu).1
    obtain ⟨fn, tmps, asg, bd, h1, h2⟩ := hY u L' W A c _ (Nat.le_trans (ddx_len j xs) (by omega)) hMW
    refine ⟨fn, tmps, asg, bd, h1, h2.mono ?_⟩
    rintro e W' ⟨rfl, A', c', hM'⟩
    rw [← ddx_step hu] at hM'
    exact ⟨rfl, _, ⟨A', c', rfl⟩, hM'⟩
  · rintro e W2 ⟨⟨v, rfl⟩, T, ⟨A, c, rfl⟩, hM2⟩
    rw [List.take_length] at hM2
    exact hR v A c W2 hM2
theorem yield_hid {F : Fence} {m : Nat} {P : Program} {l : Nat} {args : Array Value} {W : World} {R : Ending → World → Prop} (h : ∀ R' : Ending → World → Prop, Hid (∀ e w, R e w → R' e w) → YieldAt F m P l args W R') : YieldAt F m P l args W R := h R (hide (fun _ _ h => h))
theorem fold1 (p : Nat) (v : Value) (t : Array Value) : ((#[p] : Array Tmp).zip #[v]).foldl (fun t (x : Tmp × Value) => t.setIfInBounds x.1 x.2) t = t.setIfInBounds p v := by simp
set_option maxRecDepth 100000 in
set_option maxHeartbeats 4000000 in
theorem WhoG_any (w : World) (n cap : Nat) (R B : Option Addr) (ks : List (List (BitVec 8))) (lv : List Vt) (k s v : Int) (sum : List (BitVec 8)) (hG : GoodF w R ks) (hl : Reads w w.heap.size 68 B n (vCells lv)) (hn : lv.length = n) (hcap : n ≤ cap) (hok : ∀ v ∈ lv, v.Ok) (hsum : sum.length = 32) :
    Calls Try.prog 44 #[.pointer R, .slice B n cap, .int .i64 k, .int .i64 s, .int .i64 v, .agg (hv sum)] w fun e w' => ∃ A' c', e = .returned (.slice A' (whoOf ks lv k s v sum).length c') ∧
      Mem w noOwn w' [.row (.slice A' (whoOf ks lv k s v sum).length c') 3 1 (whoOf ks lv k s v sum).length ((whoOf ks lv k s v sum).map (Value.int .i64))] := by
  have hM := Mem.nil w noOwn
  have z3 : SzA (hv sum) 32 := ⟨by rw [hv_size, hsum]⟩
  obtain ⟨xs, hxs⟩ : ∃ xs, xs = onOf ks lv k s v sum := ⟨_, rfl⟩
  have hx10 : xs.length ≤ 10 := by rw [hxs]; exact onOf_len ..
  have hd10 := ddx_le hx10
  have hwl : (whoOf ks lv k s v sum).length = (ddx xs).length := by unfold whoOf; rw [List.length_mergeSort, ← hxs]
  have hwe : whoOf ks lv k s v sum = (ddx xs).mergeSort leI := by rw [hxs]; rfl
  rw [hwl, hwe]
  clear hwl hwe
  have hI : ∀ (L : List Item) (b1 b2 b3 b4 b5 b6 : Nat), IterN Try.prog 64 #[.pointer (some ⟨b1, 0, none⟩), .pointer (some ⟨b2, 0, none⟩), .pointer (some ⟨b3, 0, none⟩), .pointer (some ⟨b4, 0, none⟩), .pointer (some ⟨b5, 0, none⟩), .pointer (some ⟨b6, 0, none⟩)] xs w noOwn
      (.blk b1 29 #[.slice B n cap] :: .blk b2 3 #[.int .i64 k] :: .blk b3 3 #[.int .i64 s] :: .blk b4 3 #[.int .i64 v] :: .blk b5 26 (hv sum) :: .blk b6 23 #[.pointer R] :: L) := by
    intro L b1 b2 b3 b4 b5 b6
    rw [hxs]
    exact iter_on hG hl hn hcap hok hsum
  clear hxs hl hok hn
  refine (callsIn_wide (n := 0)).1 ?_
  refine callsIn_of_wp_marks Try.func44 rfl trivial ?_
  simp only [Try.ntmps44, List.size_toArray, List.length_cons, List.length_nil, Nat.reduceAdd, Nat.reduceSub, Array.replicate_succ, Array.replicate_zero, List.push_toArray, List.append_toArray, List.nil_append, List.cons_append]
  gi_wp2_with (first | (refine wpListIn_of1 (fun _ e => by cases e) ?_; ((with_reducible refine wl_shape ?_); first | (apply wl_boxa; exact rfl; exact hM; exact rfl; exact rfl; clear hM; intro gg ww hM; simp only [putT, List.set_cons_succ, List.set_cons_zero]) | (apply wl_box1; exact rfl; exact hM; exact rfl; exact rfl; exact rfl; clear hM; intro gg ww hM; simp only [putT, List.set_cons_succ, List.set_cons_zero]) | (apply wl_alloc; exact rfl; exact hM; exact rfl; exact inferInstance; clear hM; intro gg ww hM; simp only [putT, List.set_cons_succ, List.set_cons_zero]) | (apply wl_ld; exact rfl; exact hM; exact rfl; exact rfl; exact inferInstance; exact inferInstance; simp only [putT, List.set_cons_succ, List.set_cons_zero]) | (apply wl_lda; exact rfl; exact hM; exact rfl; exact rfl; exact inferInstance; exact inferInstance; exact inferInstance; exact inferInstance; simp only [putT, List.set_cons_succ, List.set_cons_zero]) | (apply wl_ldr; exact rfl; exact hM; exact rfl; exact rfl; exact inferInstance; exact inferInstance; exact inferInstance; exact inferInstance; simp only [putT, List.set_cons_succ, List.set_cons_zero]) | (apply wl_st; exact rfl; exact hM; exact rfl; exact rfl; exact rfl; exact rfl; exact inferInstance; exact inferInstance; clear hM; intro ww hM; simp only [putT, List.set_cons_succ, List.set_cons_zero]) | (apply wl_sta; exact rfl; exact hM; exact rfl; exact rfl; exact rfl; exact all_oneCell_toArray One.out; exact inferInstance; exact inferInstance; exact inferInstance; clear hM; intro ww hM; simp only [putT, List.set_cons_succ, List.set_cons_zero]) | (apply wl_bs0; exact rfl; exact hM; exact rfl; exact inferInstance; clear hM; intro gg ww hM; simp only [putT, List.set_cons_succ, List.set_cons_zero]) | (apply wl_bs1a; exact rfl; exact hM; exact rfl; exact inferInstance; exact rfl; exact inferInstance; clear hM; intro gg ww hM; simp only [putT, List.set_cons_succ, List.set_cons_zero]) | (apply wl_bs11; exact rfl; exact hM; exact rfl; exact inferInstance; exact rfl; exact rfl; clear hM; intro gg ww hM; simp only [putT, List.set_cons_succ, List.set_cons_zero]) | (apply wl_conv; exact rfl; exact hM; exact rfl; exact rfl; exact inferInstance; exact inferInstance; simp only [putT, List.set_cons_succ, List.set_cons_zero])); refine wpListIn_end ?_) | ((first | gi_at_call 57 | (refine ⟨fun _ _ => trivial, ?_⟩; gi_at_call 57) | (refine ⟨trivial, ?_⟩; gi_at_call 57) | (refine ⟨trivial, rfl, ?_⟩; gi_at_call 57)); refine (callsIn_wide.2 (On_any (k := k) (s := s) (v := v) (sum := sum) (n := n) (cap := cap) (B := B) hM hsum R)).mono ?_; rintro e1 w1 ⟨b1, b2, b3, b4, b5, b6, rfl, hM1⟩; clear hM; have hM := hM1; clear hM1))
  refine wpIn_range (gf := 64) rfl (fun args w => run_callFunc Try.func64 (by kernel_rfl) rfl args w) hM ?_
  intro fn l D W1 hM1
  clear hM
  refine who_use hx10 (hI _ b1 b2 b3 b4 b5 b6) (hM1.perm (List.Perm.cons _ (List.Perm.cons _ (List.perm_middle (l₁ := [_, _, _, _, _, _]))))) ?_ ?_
  · clear hM1 hI
    intro u L' W A1 c1 out ho hM
    refine yield_hid (fun R' HR => ?_)
    unfold intRow at hM
    refine yield_round hM 1 rfl rfl ?_
    simp only [fold1, List.setIfInBounds_toArray, List.set_cons_succ, List.set_cons_zero]
    gi_wp2_with (first | (refine wpListIn_of1 (fun _ e => by cases e) ?_; ((with_reducible refine wl_shape ?_); first | (apply wl_boxa; exact rfl; exact hM; exact rfl; exact rfl; clear hM; intro gg ww hM; simp only [putT, List.set_cons_succ, List.set_cons_zero]) | (apply wl_box1; exact rfl; exact hM; exact rfl; exact rfl; exact rfl; clear hM; intro gg ww hM; simp only [putT, List.set_cons_succ, List.set_cons_zero]) | (apply wl_alloc; exact rfl; exact hM; exact rfl; exact inferInstance; clear hM; intro gg ww hM; simp only [putT, List.set_cons_succ, List.set_cons_zero]) | (apply wl_ld; exact rfl; exact hM; exact rfl; exact rfl; exact inferInstance; exact inferInstance; simp only [putT, List.set_cons_succ, List.set_cons_zero]) | (apply wl_lda; exact rfl; exact hM; exact rfl; exact rfl; exact inferInstance; exact inferInstance; exact inferInstance; exact inferInstance; simp only [putT, List.set_cons_succ, List.set_cons_zero]) | (apply wl_ldr; exact rfl; exact hM; exact rfl; exact rfl; exact inferInstance; exact inferInstance; exact inferInstance; exact inferInstance; simp only [putT, List.set_cons_succ, List.set_cons_zero]) | (apply wl_st; exact rfl; exact hM; exact rfl; exact rfl; exact rfl; exact rfl; exact inferInstance; exact inferInstance; clear hM; intro ww hM; simp only [putT, List.set_cons_succ, List.set_cons_zero]) | (apply wl_sta; exact rfl; exact hM; exact rfl; exact rfl; exact rfl; exact all_oneCell_toArray One.out; exact inferInstance; exact inferInstance; exact inferInstance; clear hM; intro ww hM; simp only [putT, List.set_cons_succ, List.set_cons_zero]) | (apply wl_bs0; exact rfl; exact hM; exact rfl; exact inferInstance; clear hM; intro gg ww hM; simp only [putT, List.set_cons_succ, List.set_cons_zero]) | (apply wl_bs1a; exact rfl; exact hM; exact rfl; exact inferInstance; exact rfl; exact inferInstance; clear hM; intro gg ww hM; simp only [putT, List.set_cons_succ, List.set_cons_zero]) | (apply wl_bs11; exact rfl; exact hM; exact rfl; exact inferInstance; exact rfl; exact rfl; clear hM; intro gg ww hM; simp only [putT, List.set_cons_succ, List.set_cons_zero]) | (apply wl_conv; exact rfl; exact hM; exact rfl; exact rfl; exact inferInstance; exact inferInstance; simp only [putT, List.set_cons_succ, List.set_cons_zero])); refine wpListIn_end ?_))
    obtain ⟨wb, hb, hM2⟩ := begin_mem (P := Try.prog) hM 1 rfl
    refine ⟨wb, hb, ?_⟩
    clear hM hb
    have hM := hM2
    clear hM2
    simp only [List.set_cons_succ, List.set_cons_zero] at hM
    cases hc : out.contains u
    · rw [hc] at HR
      gi_wp2_with (first | (refine wpListIn_of1 (fun _ e => by cases e) ?_; ((with_reducible refine wl_shape ?_); first | (apply wl_boxa; exact rfl; exact hM; exact rfl; exact rfl; clear hM; intro gg ww hM; simp only [putT, List.set_cons_succ, List.set_cons_zero]) | (apply wl_box1; exact rfl; exact hM; exact rfl; exact rfl; exact rfl; clear hM; intro gg ww hM; simp only [putT, List.set_cons_succ, List.set_cons_zero]) | (apply wl_alloc; exact rfl; exact hM; exact rfl; exact inferInstance; clear hM; intro gg ww hM; simp only [putT, List.set_cons_succ, List.set_cons_zero]) | (apply wl_ld; exact rfl; exact hM; exact rfl; exact rfl; exact inferInstance; exact inferInstance; simp only [putT, List.set_cons_succ, List.set_cons_zero]) | (apply wl_lda; exact rfl; exact hM; exact rfl; exact rfl; exact inferInstance; exact inferInstance; exact inferInstance; exact inferInstance; simp only [putT, List.set_cons_succ, List.set_cons_zero]) | (apply wl_ldr; exact rfl; exact hM; exact rfl; exact rfl; exact inferInstance; exact inferInstance; exact inferInstance; exact inferInstance; simp only [putT, List.set_cons_succ, List.set_cons_zero]) | (apply wl_st; exact rfl; exact hM; exact rfl; exact rfl; exact rfl; exact rfl; exact inferInstance; exact inferInstance; clear hM; intro ww hM; simp only [putT, List.set_cons_succ, List.set_cons_zero]) | (apply wl_sta; exact rfl; exact hM; exact rfl; exact rfl; exact rfl; exact all_oneCell_toArray One.out; exact inferInstance; exact inferInstance; exact inferInstance; clear hM; intro ww hM; simp only [putT, List.set_cons_succ, List.set_cons_zero]) | (apply wl_bs0; exact rfl; exact hM; exact rfl; exact inferInstance; clear hM; intro gg ww hM; simp only [putT, List.set_cons_succ, List.set_cons_zero]) | (apply wl_bs1a; exact rfl; exact hM; exact rfl; exact inferInstance; exact rfl; exact inferInstance; clear hM; intro gg ww hM; simp only [putT, List.set_cons_succ, List.set_cons_zero]) | (apply wl_bs11; exact rfl; exact hM; exact rfl; exact inferInstance; exact rfl; exact rfl; clear hM; intro gg ww hM; simp only [putT, List.set_cons_succ, List.set_cons_zero]) | (apply wl_conv; exact rfl; exact hM; exact rfl; exact rfl; exact inferInstance; exact inferInstance; simp only [putT, List.set_cons_succ, List.set_cons_zero])); refine wpListIn_end ?_) | (refine wpListIn_call rfl 58 #[.slice A1 out.length c1, .int .i64 u] _ rfl rfl Try.func58 (by kernel_rfl) rfl (Contains_any (xs := out) u (Reads.of_own (hM.row 0 rfl)) rfl (by omega)) ?_; rw [hc]; rintro e1 w1 ⟨rfl, rfl⟩; refine ⟨_, rfl, ?_⟩; simp only [Act.put, List.setIfInBounds_toArray, List.set_cons_succ, List.set_cons_zero]) | (refine wpListIn_of1 (fun _ e => by cases e) ?_; (apply wl_app; exact rfl; exact hM; exact rfl; exact inferInstance; exact rfl; exact rfl; exact inferInstance; exact One.out; exact inferInstance; (unfold maxLen; omega); omega; exact rfl; exact rfl; clear hM; intro A4 c4 ww hM; simp only [List.set_cons_succ, List.set_cons_zero] at hM; simp only [putT, List.set_cons_succ, List.set_cons_zero]); refine wpListIn_end ?_))
      obtain ⟨w3, he, hM3⟩ := end_mem (P := Try.prog) hM 2 rfl
      have h4 := hM3.tail
      simp only [List.set_cons_succ, List.set_cons_zero] at h4
      exact ⟨_, w3, he, unhide HR _ _ ⟨rfl, A4, c4, by simp only [Bool.false_eq_true, if_false, intRow, List.length_append, List.length_cons, List.length_nil, List.map_append, List.map_cons, List.map_nil, Nat.zero_add]; exact h4⟩⟩
    · rw [hc] at HR
      gi_wp2_with (first | (refine wpListIn_of1 (fun _ e => by cases e) ?_; ((with_reducible refine wl_shape ?_); first | (apply wl_boxa; exact rfl; exact hM; exact rfl; exact rfl; clear hM; intro gg ww hM; simp only [putT, List.set_cons_succ, List.set_cons_zero]) | (apply wl_box1; exact rfl; exact hM; exact rfl; exact rfl; exact rfl; clear hM; intro gg ww hM; simp only [putT, List.set_cons_succ, List.set_cons_zero]) | (apply wl_alloc; exact rfl; exact hM; exact rfl; exact inferInstance; clear hM; intro gg ww hM; simp only [putT, List.set_cons_succ, List.set_cons_zero]) | (apply wl_ld; exact rfl; exact hM; exact rfl; exact rfl; exact inferInstance; exact inferInstance; simp only [putT, List.set_cons_succ, List.set_cons_zero]) | (apply wl_lda; exact rfl; exact hM; exact rfl; exact rfl; exact inferInstance; exact inferInstance; exact inferInstance; exact inferInstance; simp only [putT, List.set_cons_succ, List.set_cons_zero]) | (apply wl_ldr; exact rfl; exact hM; exact rfl; exact rfl; exact inferInstance; exact inferInstance; exact inferInstance; exact inferInstance; simp only [putT, List.set_cons_succ, List.set_cons_zero]) | (apply wl_st; exact rfl; exact hM; exact rfl; exact rfl; exact rfl; exact rfl; exact inferInstance; exact inferInstance; clear hM; intro ww hM; simp only [putT, List.set_cons_succ, List.set_cons_zero]) | (apply wl_sta; exact rfl; exact hM; exact rfl; exact rfl; exact rfl; exact all_oneCell_toArray One.out; exact inferInstance; exact inferInstance; exact inferInstance; clear hM; intro ww hM; simp only [putT, List.set_cons_succ, List.set_cons_zero]) | (apply wl_bs0; exact rfl; exact hM; exact rfl; exact inferInstance; clear hM; intro gg ww hM; simp only [putT, List.set_cons_succ, List.set_cons_zero]) | (apply wl_bs1a; exact rfl; exact hM; exact rfl; exact inferInstance; exact rfl; exact inferInstance; clear hM; intro gg ww hM; simp only [putT, List.set_cons_succ, List.set_cons_zero]) | (apply wl_bs11; exact rfl; exact hM; exact rfl; exact inferInstance; exact rfl; exact rfl; clear hM; intro gg ww hM; simp only [putT, List.set_cons_succ, List.set_cons_zero]) | (apply wl_conv; exact rfl; exact hM; exact rfl; exact rfl; exact inferInstance; exact inferInstance; simp only [putT, List.set_cons_succ, List.set_cons_zero])); refine wpListIn_end ?_) | (refine wpListIn_call rfl 58 #[.slice A1 out.length c1, .int .i64 u] _ rfl rfl Try.func58 (by kernel_rfl) rfl (Contains_any (xs := out) u (Reads.of_own (hM.row 0 rfl)) rfl (by omega)) ?_; rw [hc]; rintro e1 w1 ⟨rfl, rfl⟩; refine ⟨_, rfl, ?_⟩; simp only [Act.put, List.setIfInBounds_toArray, List.set_cons_succ, List.set_cons_zero]))
      obtain ⟨w3, he, hM3⟩ := end_mem (P := Try.prog) hM 1 rfl
      exact ⟨_, w3, he, unhide HR _ _ ⟨rfl, A1, c1, hM3⟩⟩
  · intro v1 A1 c1 W2 hM2
    refine ⟨⟨v1, rfl⟩, _, hM2.perm (List.Perm.swap _ _ _), fun W3 hM3 => ?_⟩
    clear hM2 hM1 hI
    have hM := hM3
    clear hM3
    unfold intRow at hM
    gi_wp2_with (first | (refine wpListIn_of1 (fun _ e => by cases e) ?_; ((with_reducible refine wl_shape ?_); first | (apply wl_boxa; exact rfl; exact hM; exact rfl; exact rfl; clear hM; intro gg ww hM; simp only [putT, List.set_cons_succ, List.set_cons_zero]) | (apply wl_box1; exact rfl; exact hM; exact rfl; exact rfl; exact rfl; clear hM; intro gg ww hM; simp only [putT, List.set_cons_succ, List.set_cons_zero]) | (apply wl_alloc; exact rfl; exact hM; exact rfl; exact inferInstance; clear hM; intro gg ww hM; simp only [putT, List.set_cons_succ, List.set_cons_zero]) | (apply wl_ld; exact rfl; exact hM; exact rfl; exact rfl; exact inferInstance; exact inferInstance; simp only [putT, List.set_cons_succ, List.set_cons_zero]) | (apply wl_lda; exact rfl; exact hM; exact rfl; exact rfl; exact inferInstance; exact inferInstance; exact inferInstance; exact inferInstance; simp only [putT, List.set_cons_succ, List.set_cons_zero]) | (apply wl_ldr; exact rfl; exact hM; exact rfl; exact rfl; exact inferInstance; exact inferInstance; exact inferInstance; exact inferInstance; simp only [putT, List.set_cons_succ, List.set_cons_zero]) | (apply wl_st; exact rfl; exact hM; exact rfl; exact rfl; exact rfl; exact rfl; exact inferInstance; exact inferInstance; clear hM; intro ww hM; simp only [putT, List.set_cons_succ, List.set_cons_zero]) | (apply wl_sta; exact rfl; exact hM; exact rfl; exact rfl; exact rfl; exact all_oneCell_toArray One.out; exact inferInstance; exact inferInstance; exact inferInstance; clear hM; intro ww hM; simp only [putT, List.set_cons_succ, List.set_cons_zero]) | (apply wl_bs0; exact rfl; exact hM; exact rfl; exact inferInstance; clear hM; intro gg ww hM; simp only [putT, List.set_cons_succ, List.set_cons_zero]) | (apply wl_bs1a; exact rfl; exact hM; exact rfl; exact inferInstance; exact rfl; exact inferInstance; clear hM; intro gg ww hM; simp only [putT, List.set_cons_succ, List.set_cons_zero]) | (apply wl_bs11; exact rfl; exact hM; exact rfl; exact inferInstance; exact rfl; exact rfl; clear hM; intro gg ww hM; simp only [putT, List.set_cons_succ, List.set_cons_zero]) | (apply wl_conv; exact rfl; exact hM; exact rfl; exact rfl; exact inferInstance; exact inferInstance; simp only [putT, List.set_cons_succ, List.set_cons_zero])); refine wpListIn_end ?_) | ((first | gi_at_call 59 | (refine ⟨fun _ _ => trivial, ?_⟩; gi_at_call 59) | (refine ⟨trivial, ?_⟩; gi_at_call 59) | (refine ⟨trivial, rfl, ?_⟩; gi_at_call 59)); refine (callsIn_wide.2 (sort_mem 0 hM rfl rfl (by omega))).mono ?_; rintro e1 w1 ⟨⟨v2, rfl⟩, hM1⟩; clear hM; have hM := hM1; clear hM1; simp only [List.set_cons_zero] at hM))
    refine leave_marked rfl (hM.perm (List.Perm.swap _ _ _)) (fun w' => results_tmp rfl _ _ _) (fun w' hM' => ⟨A1, c1, rfl, hM'.sub (List.Sublist.cons_cons _ (List.nil_sublist _))⟩)
theorem goodF_ring {w : World} {g c : Nat} {A : Option Addr} {ks : List (List (BitVec 8))} (h : RingIs w g A c 56 ks) : GoodF w (some ⟨g, 0, none⟩) ks := fun w' hg u hu => Good_any w' g c A ks u (h.grow hg) hu
theorem Who_any (w : World) (g c n cap : Nat) (A B : Option Addr) (ks : List (List (BitVec 8))) (lv : List Vt) (k s v : Int) (sum : List (BitVec 8)) (h : RingIs w g A c 56 ks) (hl : Reads w w.heap.size 68 B n (vCells lv)) (hn : lv.length = n) (hcap : n ≤ cap) (hok : ∀ v ∈ lv, v.Ok) (hsum : sum.length = 32) :
    Calls Try.prog 44 #[.pointer (some ⟨g, 0, none⟩), .slice B n cap, .int .i64 k, .int .i64 s, .int .i64 v, .agg (hv sum)] w fun e w' => ∃ A' c', e = .returned (.slice A' (whoOf ks lv k s v sum).length c') ∧
      Mem w noOwn w' [.row (.slice A' (whoOf ks lv k s v sum).length c') 3 1 (whoOf ks lv k s v sum).length ((whoOf ks lv k s v sum).map (Value.int .i64))] := WhoG_any w n cap (some ⟨g, 0, none⟩) B ks lv k s v sum (goodF_ring h) hl hn hcap hok hsum
end Go.Proofs.Ytkcmnhmbpamehaa
