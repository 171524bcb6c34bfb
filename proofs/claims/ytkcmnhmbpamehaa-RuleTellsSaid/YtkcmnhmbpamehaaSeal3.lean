/- The reference's seals and checks; how many are enough. -/
import Derived.Test.YtkcmnhmbpamehaaSeal2
import Derived.Deep.MidRow
namespace Go.Proofs.Ytkcmnhmbpamehaa
open Go.RowKit

section
variable {P : Program} {ops : Array Oper} {rest : List Oper} {o : Oper} {a : Act} {w : World} {Q : Exit → Act → World → Prop}
/-- A load of a row out of the midst of a block. -/
theorem wpList_load_bytes (hgd : Region.wanted o (yielded ops a.tmps) = true) (ty : TypeId) (x : Operand) (ho : o.op = .load ty x) (B b off n : Nat) (l : List (BitVec 8)) (hr : Bytes w B (some ⟨b, off, none⟩) n l) (hn : 0 < n) (hx : a.eval x = .pointer (some ⟨b, off, none⟩)) (d : TypeDesc)
    (hu : P.underlying ty = some d) (hd : d.isRow = true) (hs : (P.info? ty).map (·.size) = some n)
    (h : wpList P ops Q rest (a.put o.dst (.agg (hv l))) w) : wpList P ops Q (o :: rest) a w := by
  refine BigFrame.wpList_want hgd fun _ hK => wp_load_mid ty x ho b off hx (l.map V8) d ?_ hu hd (by rw [hs]; simp [hr.len]) (hK _ _ h)
  obtain ⟨b', o', e, _, hc⟩ := Reads.form hr hn (by decide)
  injection e with e
  injection e with e1 e2
  subst e1; subst e2
  intro j v hj
  exact hc j v hj
end

set_option maxRecDepth 100000 in
theorem RSeal_out (w : World) (g c n d : Nat) (A B : Option Addr) (ks : List (List (BitVec 8))) (i : Int) (h : RingIs w g A c 58 ks) (hi : ¬ (0 ≤ i ∧ i < ks.length)) :
    Calls Try.prog 27 #[.pointer (some ⟨g, 0, none⟩), .int .i64 i, .slice B n d] w fun e w' => e = .returned (.agg (hv zeros32)) ∧ Grow w noOwn w' := by
  have hM := Mem.nil w noOwn
  by_cases h0 : i < 0
  · go_enter Try.func27, Try.ntmps27
    go_wp2_with (first
      | (refine wpList_alloc_mem hM rfl 26 rfl _ zero32 ?_; clear hM; intro g6 w6 hM)
      | (refine wpList_build_to rfl 26 _ rfl (hv zeros32) (by kernel_rfl) ?_)
      | (refine wpList_store_mem rfl 26 _ _ rfl hM 0 _ _ _ (hv zeros32) rfl rfl rfl (size32 _ rfl) rfl (oneCells8 _) ?_; clear hM; intro w9 hM _))
    exact bodyPost_row rfl rfl _ _ _ (hM.blk 0 rfl) rfl (.array 32 5) (by kernel_rfl) rfl (size32 _ rfl) ⟨rfl, hM.grow⟩
  · have h1 : (ks.length : Int) ≤ i := by omega
    have hcap := h.cap
    go_enter Try.func27, Try.ntmps27
    go_wp2_with (first
      | (refine wpList_alloc_mem hM rfl 26 rfl _ zero32 ?_; clear hM; intro g6 w6 hM; have c6 := (h.grow hM.grow).blk.cell 0)
      | (refine wpList_build_to rfl 26 _ rfl (hv zeros32) (by kernel_rfl) ?_)
      | (refine wpList_store_mem rfl 26 _ _ rfl hM 0 _ _ _ (hv zeros32) rfl rfl rfl (size32 _ rfl) rfl (oneCells8 _) ?_; clear hM; intro w9 hM _))
    exact bodyPost_row rfl rfl _ _ _ (hM.blk 0 rfl) rfl (.array 32 5) (by kernel_rfl) rfl (size32 _ rfl) ⟨rfl, hM.grow⟩
set_option maxRecDepth 100000 in
theorem RSeal_in (w : World) (g c n d k : Nat) (A B : Option Addr) (ks : List (List (BitVec 8))) (l : List (BitVec 8)) (h : RingIs w g A c 58 ks) (hk : k < ks.length) (hb : Bytes w w.heap.size B n l) (hn : n ≤ 140737488340000) :
    Calls Try.prog 27 #[.pointer (some ⟨g, 0, none⟩), .int .i64 k, .slice B n d] w fun e w' => e = .returned (.agg (hv (mac ks[k] l))) ∧ Grow w noOwn w' := by
  have hM := Mem.nil w noOwn
  have hml : (mac ks[k] l).length = 32 := sha_length _
  have hkl : ks[k].length = 32 := h.key _ (List.getElem_mem hk)
  have tok1 : True := trivial
  have tok2 : True := trivial
  obtain ⟨b, off, rfl, _, _⟩ := h.reads.form (by omega) (by decide)
  go_enter Try.func27, Try.ntmps27
  go_wp2_with (first
    | (have _t := tok1; refine wpList_alloc_mem hM rfl 26 rfl _ zero32 ?_; clear tok1 hM; intro g6 w6 hM; have h6 := h.grow hM.grow; have c6 := h6.blk.cell 0)
    | (refine wpList_load_bytes rfl 26 _ rfl _ b (off + k * 32) 32 ks[k] (key_bytes h6.reads h.key k hk) (by decide) rfl (.array 32 5) (by kernel_rfl) rfl (by kernel_rfl) ?_)
    | (have _t := tok2; refine wpList_alloc_mem hM rfl 26 rfl _ zero32 ?_; clear tok2 hM; intro g7 w7 hM)
    | (refine wpList_store_mem rfl 26 _ _ rfl hM 0 _ _ _ (hv ks[k]) rfl rfl rfl (size32 _ hkl) (hvz _ hkl) (oneCells8 _) ?_; clear hM; intro w8 hM _)
    | (go_at_call 39; refine (RMac_any _ 32 32 n d _ _ ks[k] l ((hM.blk 0 rfl).bytes 0 32 (by rw [hkl])) (by omega) ((hb.grow hM.grow (Nat.le_refl _) (fun _ _ e => e)).more hM.grow.size) (by omega)).mono ?_; rintro e w9 ⟨rfl, hg⟩; replace hM := hM.call hg)
    | (refine wpList_store_mem rfl 26 _ _ rfl hM 1 _ _ _ (hv (mac ks[k] l)) rfl rfl rfl (size32 _ hml) (hvz _ hml) (oneCells8 _) ?_; clear hM; intro w10 hM _))
  exact bodyPost_row rfl rfl _ _ _ (hM.blk 1 rfl) rfl (.array 32 5) (by kernel_rfl) rfl (size32 _ hml) ⟨rfl, hM.grow⟩
theorem RSeal_any (w : World) (g c n d : Nat) (A B : Option Addr) (ks : List (List (BitVec 8))) (i : Int) (l : List (BitVec 8)) (h : RingIs w g A c 58 ks) (hb : Bytes w w.heap.size B n l) (hn : n ≤ 140737488340000) :
    Calls Try.prog 27 #[.pointer (some ⟨g, 0, none⟩), .int .i64 i, .slice B n d] w fun e w' => e = .returned (.agg (hv (sealOf ks i l))) ∧ Grow w noOwn w' := by
  by_cases hi : 0 ≤ i ∧ i < ks.length
  · obtain ⟨k, rfl⟩ : ∃ k : Nat, i = k := ⟨i.toNat, by omega⟩
    rw [sealOf_in ks k l (by omega)]
    exact RSeal_in w g c n d k A B ks l h (by omega) hb hn
  · rw [sealOf_out ks i l hi]
    exact RSeal_out w g c n d A B ks i h hi

/-- How many may lie. -/
def faultsOf (n : Int) : Int := (max n 1 - 1) / 3
theorem Faults_any (w : World) (n : Int) (hn : n ≤ 9223372036854775807) : Calls Try.prog 60 #[.int .i64 n] w fun e w' => e = .returned (.int .i64 (faultsOf n)) ∧ w = w' := by
  have h1 : 0 ≤ max n 1 - 1 := by omega
  have h2 : max n 1 - 1 ≤ 9223372036854775807 := by omega
  go_enter Try.func60, Try.ntmps60
  go_wp2
  go_ret
  exact ⟨rfl, rfl⟩
theorem RFaults_any (w : World) (n : Int) (hn : n ≤ 9223372036854775807) : Calls Try.prog 62 #[.int .i64 n] w fun e w' => e = .returned (.int .i64 (faultsOf n)) ∧ w = w' := by
  by_cases h : n < 1
  · go_enter Try.func62, Try.ntmps62
    go_wp2
    go_ret
    exact ⟨by unfold faultsOf; rw [show max n 1 = 1 by omega]; rfl, rfl⟩
  · have h1 : 0 ≤ n - 1 := by omega
    go_enter Try.func62, Try.ntmps62
    go_wp2
    go_ret
    exact ⟨by unfold faultsOf; rw [show max n 1 = n by omega]; rfl, rfl⟩
def quorumOf (n : Int) : Int := wrap64 (n - faultsOf n)
theorem Quorum_any (w : World) (n : Int) (hn : n ≤ 9223372036854775807) : Calls Try.prog 45 #[.int .i64 n] w fun e w' => e = .returned (.int .i64 (quorumOf n)) ∧ w = w' := by
  go_enter Try.func45, Try.ntmps45
  go_wp2_with (go_at_call 60; refine (Faults_any _ _ hn).mono ?_; rintro e w' ⟨rfl, rfl⟩)
  go_ret
  exact ⟨rfl, rfl⟩
theorem RQuorum_any (w : World) (n : Int) (hn : n ≤ 9223372036854775807) : Calls Try.prog 49 #[.int .i64 n] w fun e w' => e = .returned (.int .i64 (quorumOf n)) ∧ w = w' := by
  go_enter Try.func49, Try.ntmps49
  go_wp2_with (go_at_call 62; refine (RFaults_any _ _ hn).mono ?_; rintro e w' ⟨rfl, rfl⟩)
  go_ret
  exact ⟨rfl, rfl⟩
end Go.Proofs.Ytkcmnhmbpamehaa
