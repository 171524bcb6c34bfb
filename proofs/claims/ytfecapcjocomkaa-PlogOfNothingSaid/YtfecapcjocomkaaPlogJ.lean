/- plog: the log's iterator. -/
import Derived.Test.YtfecapcjocomkaaPlogI
namespace Go.Proofs.Ytfecapcjocomkaa
open Go.RowKit Go.MapKept
set_option linter.unusedSimpArgs false
set_option linter.unusedVariables false

/-- The log, with where it lies. -/
def LogE (F : Nat → Prop) (g gm : Nat) (A B : Option Addr) (ca cb : Nat) (m : PL) (vs : List Value) (S V : Nat → Prop) (w : World) : Prop := LogHas w g gm A B ca cb m vs S V ∧ ∀ i, S i ∨ V i → F i
theorem LogE.stays (F : Nat → Prop) (g gm : Nat) (A B : Option Addr) (ca cb : Nat) (m : PL) (vs : List Value) (S V : Nat → Prop) : Stays F (LogE F g gm A B ca cb m vs S V) := by
  rintro w1 w2 hl hk ⟨h, hF⟩
  refine ⟨⟨h.vl, ⟨Grow.refl _ _, fun x hx => Item.keep (h.mem.has x hx) (fun i e => hk i (hF i (.inl ((h.mem.mine x hx i e).resolve_right (by have := Item.at_lt (h.mem.has x hx) i e; omega))))), h.mem.apart, fun x hx i e => .inl ((h.mem.mine x hx i e).resolve_right (by have := Item.at_lt (h.mem.has x hx) i e; omega))⟩,
   fun i hi => lt_of_same (h.low i hi) (hk i (hF i hi)), h.apart, fun i hi => ?_⟩, hF⟩
  obtain ⟨D, n, c, e, hc, hb, hv⟩ := h.vals i hi
  exact ⟨D, n, c, e, hc, Reads.stay2 hb (fun ad e2 _ => hk _ (hF _ (.inr (hv ad e2)))), hv⟩
theorem Mem.as {w0 w : World} {own : Nat → Prop} {L : List Item} {F : Nat → Prop} {p q : World → Prop} (hM : Mem w0 own w (.res F p :: L)) (hq : q w) (hs : Stays F q) : Mem w0 own w (.res F q :: L) :=
  hM.upd 0 rfl hM.grow (fun _ _ _ => rfl) ⟨(hM.at_ 0 rfl).1, hq, hs⟩ (fun _ e => .inl e)
class HasLog (L : List Item) (F : Nat → Prop) (g gm : Nat) (A B : Option Addr) (ca cb : Nat) (m : PL) (vs : List Value) (S V : Nat → Prop) : Prop where out : Item.res F (LogE F g gm A B ca cb m vs S V) ∈ L
instance {L : List Item} {F : Nat → Prop} {g gm : Nat} {A B : Option Addr} {ca cb : Nat} {m : PL} {vs : List Value} {S V : Nat → Prop} : HasLog (.res F (LogE F g gm A B ca cb m vs S V) :: L) F g gm A B ca cb m vs S V := ⟨List.mem_cons_self ..⟩
instance (priority := low) {L : List Item} {x : Item} {F : Nat → Prop} {g gm : Nat} {A B : Option Addr} {ca cb : Nat} {m : PL} {vs : List Value} {S V : Nat → Prop} [h : HasLog L F g gm A B ca cb m vs S V] : HasLog (x :: L) F g gm A B ca cb m vs S V := ⟨List.mem_cons_of_mem _ h.out⟩
theorem log_has {L : List Item} {F : Nat → Prop} {g gm : Nat} {A B : Option Addr} {ca cb : Nat} {m : PL} {vs : List Value} {S V : Nat → Prop} (h : HasLog L F g gm A B ca cb m vs S V) {w0 w : World} {own : Nat → Prop} (hM : Mem w0 own w L) : LogHas w g gm A B ca cb m vs S V := by
  have hx : Item.at_ w (.res F (LogE F g gm A B ca cb m vs S V)) := hM.has _ h.out
  exact hx.2.1.1

attribute [local irreducible] wpList Code.wp GW Calls
attribute [local go_sem] Oper.semAt_some
theorem Records_any {w0 w : World} {own : Nat → Prop} {L : List Item} (hM : Mem w0 own w L) (p : Option Addr) (f : Nat) : Calls Try.prog 27 #[.pointer p, .int .i64 f] w fun e w' => ∃ bf bl, e = .returned (.func (.func 42) #[] #[.pointer (some ⟨bf, 0, none⟩), .pointer (some ⟨bl, 0, none⟩)]) ∧
    Mem w0 own w' (.blk bf 3 #[.int .i64 f] :: .blk bl 24 #[.pointer p] :: L) := by
  go_enter Try.func27, Try.ntmps27
  go_wp2_with (first | (with_reducible refine wl_shape ?_); first | (apply wl_boxa; exact rfl; exact hM; exact rfl; exact rfl; clear hM; intro gg ww hM; simp only [putT, List.set_cons_succ, List.set_cons_zero]) | (apply wl_box1; exact rfl; exact hM; exact rfl; exact rfl; exact rfl; clear hM; intro gg ww hM; simp only [putT, List.set_cons_succ, List.set_cons_zero]) | (apply wl_alloc; exact rfl; exact hM; exact rfl; exact inferInstance; clear hM; intro gg ww hM; simp only [putT, List.set_cons_succ, List.set_cons_zero]) | (apply wl_ld; exact rfl; exact hM; exact rfl; exact rfl; exact inferInstance; exact inferInstance; simp only [putT, List.set_cons_succ, List.set_cons_zero]) | (apply wl_lda; exact rfl; exact hM; exact rfl; exact rfl; exact inferInstance; exact inferInstance; exact inferInstance; exact inferInstance; simp only [putT, List.set_cons_succ, List.set_cons_zero]) | (apply wl_ldr; exact rfl; exact hM; exact rfl; exact rfl; exact inferInstance; exact inferInstance; exact inferInstance; exact inferInstance; simp only [putT, List.set_cons_succ, List.set_cons_zero]) | (apply wl_st; exact rfl; exact hM; exact rfl; exact rfl; exact rfl; exact rfl; exact inferInstance; exact inferInstance; clear hM; intro ww hM; simp only [putT, List.set_cons_succ, List.set_cons_zero]) | (apply wl_sta; exact rfl; exact hM; exact rfl; exact rfl; exact rfl; exact all_oneCell_toArray One.out; exact inferInstance; exact inferInstance; exact inferInstance; clear hM; intro ww hM; simp only [putT, List.set_cons_succ, List.set_cons_zero]) | (apply wl_bs0; exact rfl; exact hM; exact rfl; exact inferInstance; clear hM; intro gg ww hM; simp only [putT, List.set_cons_succ, List.set_cons_zero]) | (apply wl_bs1a; exact rfl; exact hM; exact rfl; exact inferInstance; exact rfl; exact inferInstance; clear hM; intro gg ww hM; simp only [putT, List.set_cons_succ, List.set_cons_zero]) | (apply wl_bs11; exact rfl; exact hM; exact rfl; exact inferInstance; exact rfl; exact rfl; clear hM; intro gg ww hM; simp only [putT, List.set_cons_succ, List.set_cons_zero]) | (apply wl_conv; exact rfl; exact hM; exact rfl; exact rfl; exact inferInstance; exact inferInstance; simp only [putT, List.set_cons_succ, List.set_cons_zero]))
  go_ret
  exact ⟨_, _, rfl, hM⟩
theorem drop_get {rs : List Rec} {f j : Nat} : (rs.drop f)[j]? = rs[f + j]? := by simp

set_option maxRecDepth 100000 in
set_option maxHeartbeats 4000000 in
theorem iter_log {w0 : World} {own : Nat → Prop} {L : List Item} {bf bl f : Nat} {F : Nat → Prop} {g gm : Nat} {A B : Option Addr} {ca cb : Nat} {m : PL} {us : List Value} {S V : Nat → Prop} (ok : m.Ok) (hf : f ≤ 1000000) :
    Iter Try.prog 42 #[.pointer (some ⟨bf, 0, none⟩), .pointer (some ⟨bl, 0, none⟩)] f (m.recs.drop f) w0 own (.blk bf 3 #[.int .i64 f] :: .blk bl 24 #[.pointer (some ⟨g, 0, none⟩)] :: .res F (LogE F g gm A B ca cb m us S V) :: L) := by
  intro l TT W T hT hM hY
  have hlen := ok.len
  replace hM := hM.perm (List.perm_append_comm_assoc T [_, _, _] L)
  simp only [List.cons_append, List.nil_append] at hM
  have hH : LogHas W g gm A B ca cb m us S V := log_has (F := F) inferInstance hM
  have hl0 := hH.read
  have c0 : ∀ (L' : List Item) [HasLog L' F g gm A B ca cb m us S V], Cell w0 own L' ⟨g, 0, none⟩ (.slice A m.recs.length ca) := fun L' h => ⟨fun w hM => (log_has h hM).read.blk.cell 0⟩
  refine (callsIn_wide (n := 0)).1 ?_
  refine callsIn_of_wp Try.func42 rfl trivial ?_
  simp only [Try.ntmps42, List.size_toArray, List.length_cons, List.length_nil, Nat.reduceAdd, Nat.reduceSub, Array.replicate_succ, Array.replicate_zero, List.push_toArray, List.append_toArray, List.nil_append, List.cons_append]
  gi_wp2_with (first | (refine wpListIn_of1 (fun _ e => by cases e) ?_; ((with_reducible refine wl_shape ?_); first | (apply wl_boxa; exact rfl; exact hM; exact rfl; exact rfl; clear hM; intro gg ww hM; simp only [putT, List.set_cons_succ, List.set_cons_zero]) | (apply wl_box1; exact rfl; exact hM; exact rfl; exact rfl; exact rfl; clear hM; intro gg ww hM; simp only [putT, List.set_cons_succ, List.set_cons_zero]) | (apply wl_alloc; exact rfl; exact hM; exact rfl; exact inferInstance; clear hM; intro gg ww hM; simp only [putT, List.set_cons_succ, List.set_cons_zero]) | (apply wl_ld; exact rfl; exact hM; exact rfl; exact rfl; exact inferInstance; exact inferInstance; simp only [putT, List.set_cons_succ, List.set_cons_zero]) | (apply wl_lda; exact rfl; exact hM; exact rfl; exact rfl; exact inferInstance; exact inferInstance; exact inferInstance; exact inferInstance; simp only [putT, List.set_cons_succ, List.set_cons_zero]) | (apply wl_ldr; exact rfl; exact hM; exact rfl; exact rfl; exact inferInstance; exact inferInstance; exact inferInstance; exact inferInstance; simp only [putT, List.set_cons_succ, List.set_cons_zero]) | (apply wl_st; exact rfl; exact hM; exact rfl; exact rfl; exact rfl; exact rfl; exact inferInstance; exact inferInstance; clear hM; intro ww hM; simp only [putT, List.set_cons_succ, List.set_cons_zero]) | (apply wl_sta; exact rfl; exact hM; exact rfl; exact rfl; exact rfl; exact all_oneCell_toArray One.out; exact inferInstance; exact inferInstance; exact inferInstance; clear hM; intro ww hM; simp only [putT, List.set_cons_succ, List.set_cons_zero]) | (apply wl_bs0; exact rfl; exact hM; exact rfl; exact inferInstance; clear hM; intro gg ww hM; simp only [putT, List.set_cons_succ, List.set_cons_zero]) | (apply wl_bs1a; exact rfl; exact hM; exact rfl; exact inferInstance; exact rfl; exact inferInstance; clear hM; intro gg ww hM; simp only [putT, List.set_cons_succ, List.set_cons_zero]) | (apply wl_bs11; exact rfl; exact hM; exact rfl; exact inferInstance; exact rfl; exact rfl; clear hM; intro gg ww hM; simp only [putT, List.set_cons_succ, List.set_cons_zero]) | (apply wl_conv; exact rfl; exact hM; exact rfl; exact rfl; exact inferInstance; exact inferInstance; simp only [putT, List.set_cons_succ, List.set_cons_zero])); refine wpListIn_end ?_))
  gi_loopw [4] (fun v wr => ∃ (j k : Nat) (T : List Item), v = .int .i64 k ∧ k = f + j ∧ j ≤ (m.recs.drop f).length ∧ TT j T ∧ Mem w0 own wr (.blk bf 3 #[.int .i64 f] :: .blk bl 24 #[.pointer (some ⟨g, 0, none⟩)] :: .res F (LogE F g gm A B ca cb m us S V) :: (T ++ L))) (fun v _ => m.recs.length - (intOf v).toNat)
  case atStart => exact ⟨0, f, T, by go_num, rfl, Nat.zero_le _, hT, hM⟩
  case round =>
    obtain ⟨j, k, T, rfl, hk, hj, hTj, hM⟩ := hrel
    rw [List.length_drop] at hj
    have HK := hide hk
    clear hk
    have hl : LogR wr g gm A B ca cb m us := (log_has (F := F) (S := S) (V := V) inferInstance hM).read
    by_cases hlt : k < m.recs.length
    · obtain ⟨r, hr⟩ : ∃ r, m.recs[k]? = some r := ⟨_, List.getElem?_eq_getElem hlt⟩
      have hv : k < us.length := by rw [hH.vl]; exact hlt
      obtain ⟨D, n, c, e1, hnc, hby, -⟩ := hH.vals k hlt
      obtain ⟨b, off, rfl, -, -⟩ := rec_range hl0.recs hl0.vl rfl k hlt
      have hrk : m.recs[k] = r := (List.getElem?_eq_some_iff.1 hr).2
      have c1 : ∀ (L' : List Item) [HasLog L' F g gm (some ⟨b, off, none⟩) B ca cb m us S V], Rng w0 own L' b (off + k * 5) (recVals r (.slice D n c)) := fun L' h => ⟨fun w hM => by
        have h1 := (log_has h hM).read
        obtain ⟨b', off', e2, _, h2⟩ := rec_range h1.recs h1.vl rfl k hlt
        injection e2 with e2
        injection e2 with e2 e3 _
        subst e2
        subst e3
        rw [e1, hrk] at h2
        exact h2⟩
      have c2 : ∀ (w : World) (L' : List Item), Mem w0 own w L' → HasLog L' F g gm (some ⟨b, off, none⟩) B ca cb m us S V → Bytes w w.heap.size D r.v.length r.v := fun w L' hM h => by
        obtain ⟨D', n', c', e4, _, h3, _⟩ := (log_has h hM).vals k hlt
        rw [e1] at e4
        injection e4 with e4 e5 _
        subst e4
        rw [hrk] at h3
        rw [show r.v.length = n' from by simpa using h3.1]
        exact h3
      have hnr : n = r.v.length := by rw [hrk] at hby; simpa using hby.1.symm
      subst hnr
      have hv2 : r.v.length ≤ 200 := by
        have := ok.recs r (List.mem_of_getElem? hr)
        simp [PL.isRec] at this
        omega
      clear e1 hby hrk hl0 hH
      gi_wp2_with (first
        | (refine wpListIn_of1 (fun _ e => by cases e) ?_; ((with_reducible refine wl_shape ?_); first | (apply wl_boxa; exact rfl; exact hM; exact rfl; exact rfl; clear hM; intro gg ww hM; simp only [putT, List.set_cons_succ, List.set_cons_zero]) | (apply wl_box1; exact rfl; exact hM; exact rfl; exact rfl; exact rfl; clear hM; intro gg ww hM; simp only [putT, List.set_cons_succ, List.set_cons_zero]) | (apply wl_alloc; exact rfl; exact hM; exact rfl; exact inferInstance; clear hM; intro gg ww hM; simp only [putT, List.set_cons_succ, List.set_cons_zero]) | (apply wl_ld; exact rfl; exact hM; exact rfl; exact rfl; exact inferInstance; exact inferInstance; simp only [putT, List.set_cons_succ, List.set_cons_zero]) | (apply wl_lda; exact rfl; exact hM; exact rfl; exact rfl; exact inferInstance; exact inferInstance; exact inferInstance; exact inferInstance; simp only [putT, List.set_cons_succ, List.set_cons_zero]) | (apply wl_ldr; exact rfl; exact hM; exact rfl; exact rfl; exact inferInstance; exact inferInstance; exact inferInstance; exact inferInstance; simp only [putT, List.set_cons_succ, List.set_cons_zero]) | (apply wl_st; exact rfl; exact hM; exact rfl; exact rfl; exact rfl; exact rfl; exact inferInstance; exact inferInstance; clear hM; intro ww hM; simp only [putT, List.set_cons_succ, List.set_cons_zero]) | (apply wl_sta; exact rfl; exact hM; exact rfl; exact rfl; exact rfl; exact all_oneCell_toArray One.out; exact inferInstance; exact inferInstance; exact inferInstance; clear hM; intro ww hM; simp only [putT, List.set_cons_succ, List.set_cons_zero]) | (apply wl_bs0; exact rfl; exact hM; exact rfl; exact inferInstance; clear hM; intro gg ww hM; simp only [putT, List.set_cons_succ, List.set_cons_zero]) | (apply wl_bs1a; exact rfl; exact hM; exact rfl; exact inferInstance; exact rfl; exact inferInstance; clear hM; intro gg ww hM; simp only [putT, List.set_cons_succ, List.set_cons_zero]) | (apply wl_bs11; exact rfl; exact hM; exact rfl; exact inferInstance; exact rfl; exact rfl; clear hM; intro gg ww hM; simp only [putT, List.set_cons_succ, List.set_cons_zero]) | (apply wl_conv; exact rfl; exact hM; exact rfl; exact rfl; exact inferInstance; exact inferInstance; simp only [putT, List.set_cons_succ, List.set_cons_zero])); refine wpListIn_end ?_)
        | ((first | gi_at_call 16 | (refine ⟨fun _ _ => trivial, ?_⟩; gi_at_call 16) | (refine ⟨trivial, ?_⟩; gi_at_call 16) | (refine ⟨trivial, rfl, ?_⟩; gi_at_call 16)); refine (callsIn_wide.2 (Len_any _ g gm _ B ca cb m us hl)).mono ?_; rintro e1 w1 ⟨rfl, rfl⟩)
        | ((first | gi_at_call 41 | (refine ⟨fun _ _ => trivial, ?_⟩; gi_at_call 41) | (refine ⟨trivial, ?_⟩; gi_at_call 41) | (refine ⟨trivial, rfl, ?_⟩; gi_at_call 41)); refine (callsIn_wide.2 (Clone_own _ r.v.length c D r.v hnc (c2 _ _ hM inferInstance) (by omega))).mono ?_; rintro e1 w8 ⟨⟨A8, c8, rfl, hrow8, hnew8⟩, hg8⟩; replace hM := hM.push (x := .row (.slice A8 r.v.length c8) 5 1 r.v.length (r.v.map V8)) (hM.grow.then_ hg8) (fun k hk => hg8.block k hk (fun e => e)) hrow8 hnew8))
      obtain ⟨fn, tmps, asg, bd, hy, hR⟩ := hY j k r T (.blk gg 35 (recVals r (.slice A8 r.v.length c8)).toArray :: .blk bf 3 #[.int .i64 f] :: .blk bl 24 #[.pointer (some ⟨g, 0, none⟩)] :: .res F (LogE F g gm (some ⟨b, off, none⟩) B ca cb m us S V) :: L) _ A8 c8 (by rw [drop_get, ← unhide HK]; exact hr) (unhide HK) hTj (hM.perm (List.Perm.cons _ (List.perm_append_comm_assoc [_, _, _, _] T L)))
      rw [hy, Oper.uponIn_round]
      refine ⟨fun e => (by cases e), hR.mono ?_⟩
      rintro e W' ⟨rfl, T', hT', hM'⟩
      clear hM hy hR
      have hM := hM'.sub ((List.Sublist.refl T').append (List.sublist_cons_self ..))
      clear hM'
      gi_wp2_with (first | (refine wpListIn_of1 (fun _ e => by cases e) ?_; ((with_reducible refine wl_shape ?_); first | (apply wl_boxa; exact rfl; exact hM; exact rfl; exact rfl; clear hM; intro gg ww hM; simp only [putT, List.set_cons_succ, List.set_cons_zero]) | (apply wl_box1; exact rfl; exact hM; exact rfl; exact rfl; exact rfl; clear hM; intro gg ww hM; simp only [putT, List.set_cons_succ, List.set_cons_zero]) | (apply wl_alloc; exact rfl; exact hM; exact rfl; exact inferInstance; clear hM; intro gg ww hM; simp only [putT, List.set_cons_succ, List.set_cons_zero]) | (apply wl_ld; exact rfl; exact hM; exact rfl; exact rfl; exact inferInstance; exact inferInstance; simp only [putT, List.set_cons_succ, List.set_cons_zero]) | (apply wl_lda; exact rfl; exact hM; exact rfl; exact rfl; exact inferInstance; exact inferInstance; exact inferInstance; exact inferInstance; simp only [putT, List.set_cons_succ, List.set_cons_zero]) | (apply wl_ldr; exact rfl; exact hM; exact rfl; exact rfl; exact inferInstance; exact inferInstance; exact inferInstance; exact inferInstance; simp only [putT, List.set_cons_succ, List.set_cons_zero]) | (apply wl_st; exact rfl; exact hM; exact rfl; exact rfl; exact rfl; exact rfl; exact inferInstance; exact inferInstance; clear hM; intro ww hM; simp only [putT, List.set_cons_succ, List.set_cons_zero]) | (apply wl_sta; exact rfl; exact hM; exact rfl; exact rfl; exact rfl; exact all_oneCell_toArray One.out; exact inferInstance; exact inferInstance; exact inferInstance; clear hM; intro ww hM; simp only [putT, List.set_cons_succ, List.set_cons_zero]) | (apply wl_bs0; exact rfl; exact hM; exact rfl; exact inferInstance; clear hM; intro gg ww hM; simp only [putT, List.set_cons_succ, List.set_cons_zero]) | (apply wl_bs1a; exact rfl; exact hM; exact rfl; exact inferInstance; exact rfl; exact inferInstance; clear hM; intro gg ww hM; simp only [putT, List.set_cons_succ, List.set_cons_zero]) | (apply wl_bs11; exact rfl; exact hM; exact rfl; exact inferInstance; exact rfl; exact rfl; clear hM; intro gg ww hM; simp only [putT, List.set_cons_succ, List.set_cons_zero]) | (apply wl_conv; exact rfl; exact hM; exact rfl; exact rfl; exact inferInstance; exact inferInstance; simp only [putT, List.set_cons_succ, List.set_cons_zero])); refine wpListIn_end ?_))
      go_roundw
      case rel => exact ⟨j + 1, k + 1, T', by go_num, by rw [unhide HK]; omega, by rw [List.length_drop]; have := unhide HK; omega, hT', hM.perm (List.perm_append_comm_assoc T' [_, _, _] L)⟩
      case measure => simp [intOf]; omega
    · gi_wp2_with (first
        | (refine wpListIn_of1 (fun _ e => by cases e) ?_; ((with_reducible refine wl_shape ?_); first | (apply wl_boxa; exact rfl; exact hM; exact rfl; exact rfl; clear hM; intro gg ww hM; simp only [putT, List.set_cons_succ, List.set_cons_zero]) | (apply wl_box1; exact rfl; exact hM; exact rfl; exact rfl; exact rfl; clear hM; intro gg ww hM; simp only [putT, List.set_cons_succ, List.set_cons_zero]) | (apply wl_alloc; exact rfl; exact hM; exact rfl; exact inferInstance; clear hM; intro gg ww hM; simp only [putT, List.set_cons_succ, List.set_cons_zero]) | (apply wl_ld; exact rfl; exact hM; exact rfl; exact rfl; exact inferInstance; exact inferInstance; simp only [putT, List.set_cons_succ, List.set_cons_zero]) | (apply wl_lda; exact rfl; exact hM; exact rfl; exact rfl; exact inferInstance; exact inferInstance; exact inferInstance; exact inferInstance; simp only [putT, List.set_cons_succ, List.set_cons_zero]) | (apply wl_ldr; exact rfl; exact hM; exact rfl; exact rfl; exact inferInstance; exact inferInstance; exact inferInstance; exact inferInstance; simp only [putT, List.set_cons_succ, List.set_cons_zero]) | (apply wl_st; exact rfl; exact hM; exact rfl; exact rfl; exact rfl; exact rfl; exact inferInstance; exact inferInstance; clear hM; intro ww hM; simp only [putT, List.set_cons_succ, List.set_cons_zero]) | (apply wl_sta; exact rfl; exact hM; exact rfl; exact rfl; exact rfl; exact all_oneCell_toArray One.out; exact inferInstance; exact inferInstance; exact inferInstance; clear hM; intro ww hM; simp only [putT, List.set_cons_succ, List.set_cons_zero]) | (apply wl_bs0; exact rfl; exact hM; exact rfl; exact inferInstance; clear hM; intro gg ww hM; simp only [putT, List.set_cons_succ, List.set_cons_zero]) | (apply wl_bs1a; exact rfl; exact hM; exact rfl; exact inferInstance; exact rfl; exact inferInstance; clear hM; intro gg ww hM; simp only [putT, List.set_cons_succ, List.set_cons_zero]) | (apply wl_bs11; exact rfl; exact hM; exact rfl; exact inferInstance; exact rfl; exact rfl; clear hM; intro gg ww hM; simp only [putT, List.set_cons_succ, List.set_cons_zero]) | (apply wl_conv; exact rfl; exact hM; exact rfl; exact rfl; exact inferInstance; exact inferInstance; simp only [putT, List.set_cons_succ, List.set_cons_zero])); refine wpListIn_end ?_)
        | ((first | gi_at_call 16 | (refine ⟨fun _ _ => trivial, ?_⟩; gi_at_call 16) | (refine ⟨trivial, ?_⟩; gi_at_call 16) | (refine ⟨trivial, rfl, ?_⟩; gi_at_call 16)); refine (callsIn_wide.2 (Len_any _ g gm _ B ca cb m us hl)).mono ?_; rintro e1 w1 ⟨rfl, rfl⟩))
      go_end0
      exact ⟨⟨_, rfl⟩, T, by rw [List.length_drop]; have := unhide HK; rwa [show m.recs.length - f = j from by omega], hM.perm (List.perm_append_comm_assoc [_, _, _] T L)⟩
end Go.Proofs.Ytfecapcjocomkaa
