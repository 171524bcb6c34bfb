/- Seals and checks. -/
import Derived.Test.YtkcmnhmbpamehaaSeal
namespace Go.Proofs.Ytkcmnhmbpamehaa
open Go.RowKit

theorem flat_get (ks : List (List (BitVec 8))) (h : ∀ k ∈ ks, k.length = 32) : ∀ (i : Nat) (hi : i < ks.length) (j : Nat), j < 32 → (flat ks)[i * 32 + j]? = (ks[i].map V8)[j]? := by
  induction ks with
  | nil => intro i hi; simp at hi
  | cons k ks ih =>
    intro i hi j hj
    have hk : k.length = 32 := h k (List.mem_cons_self ..)
    have e : flat (k :: ks) = k.map V8 ++ flat ks := by simp [flat]
    rw [e]
    cases i with
    | zero => rw [List.getElem?_append_left (by simp; omega)]; simp
    | succ i =>
      rw [List.getElem?_append_right (by simp; omega)]
      have := ih (fun x hx => h x (List.mem_cons_of_mem _ hx)) i (by simpa using hi) j hj
      rw [List.length_map, hk, show (i + 1) * 32 + j - 32 = i * 32 + j from by omega]
      simpa using this
theorem key_bytes {w : World} {B b off : Nat} {ks : List (List (BitVec 8))} (h : Reads w B 32 (some ⟨b, off, none⟩) ks.length (flat ks)) (hk : ∀ k ∈ ks, k.length = 32) (i : Nat) (hi : i < ks.length) : Bytes w B (some ⟨b, off + i * 32, none⟩) 32 ks[i] := by
  have h32 := hk ks[i] (List.getElem_mem hi)
  obtain ⟨b', o', e, hb, hc⟩ := h.form (by omega) (by decide)
  injection e with e
  injection e with e1 e2
  subst e1; subst e2
  refine ⟨by simp [h32], fun _ => ⟨_, rfl, hb, fun j u hu => ?_⟩⟩
  have hj : j < 32 := by have := (List.getElem?_eq_some_iff.1 hu).1; simpa [h32] using this
  have ha : (⟨b, off + i * 32, none⟩ : Addr).add j = ⟨b, off + (i * 32 + j), none⟩ := by unfold Addr.add; split <;> simp_all [Nat.add_assoc]
  rw [ha]
  exact hc _ u (by rw [flat_get ks hk i hi j hj]; exact hu)

def zeros32 : List (BitVec 8) := List.replicate 32 0
def sealOf (ks : List (List (BitVec 8))) (i : Int) (l : List (BitVec 8)) : List (BitVec 8) := if 0 ≤ i ∧ i < ks.length then mac (ks.getD i.toNat []) l else zeros32
theorem sealOf_length (ks : List (List (BitVec 8))) (i : Int) (l : List (BitVec 8)) : (sealOf ks i l).length = 32 := by
  unfold sealOf
  split
  · exact sha_length _
  · rfl
def checkOf (ks : List (List (BitVec 8))) (i : Int) (l tag : List (BitVec 8)) : Bool := decide (0 ≤ i ∧ i < ks.length) && (sealOf ks i l == tag)
theorem sealOf_out (ks : List (List (BitVec 8))) (i : Int) (l : List (BitVec 8)) (h : ¬ (0 ≤ i ∧ i < ks.length)) : sealOf ks i l = zeros32 := by unfold sealOf; rw [if_neg h]
theorem sealOf_in (ks : List (List (BitVec 8))) (k : Nat) (l : List (BitVec 8)) (h : k < ks.length) : sealOf ks k l = mac ks[k] l := by
  unfold sealOf
  rw [if_pos ⟨by omega, by omega⟩]
  simp [h]

theorem Nodes_any (w : World) (g c : Nat) (A : Option Addr) (ks : List (List (BitVec 8))) (h : RingIs w g A c 56 ks) :
    Calls Try.prog 46 #[.pointer (some ⟨g, 0, none⟩)] w fun e w' => e = .returned (.int .i64 ks.length) ∧ w = w' := by
  have c0 := h.blk.cell 0
  go_enter Try.func46, Try.ntmps46
  go_wp2
  go_ret
  exact ⟨rfl, rfl⟩
theorem Nodes_nil (w : World) :
    Calls Try.prog 46 #[.pointer none] w fun e w' => e = .returned (.int .i64 0) ∧ w = w' := by
  go_enter Try.func46, Try.ntmps46
  go_wp2
  go_ret
  exact ⟨rfl, rfl⟩

set_option maxRecDepth 100000 in
theorem Seal_out (w : World) (g c n d : Nat) (A B : Option Addr) (ks : List (List (BitVec 8))) (i : Int) (h : RingIs w g A c 56 ks) (hi : ¬ (0 ≤ i ∧ i < ks.length)) :
    Calls Try.prog 83 #[.pointer (some ⟨g, 0, none⟩), .int .i64 i, .slice B n d] w fun e w' => e = .returned (.agg (hv zeros32)) ∧ Grow w noOwn w' := by
  have hM := Mem.nil w noOwn
  by_cases h0 : i < 0
  · go_enter Try.func83, Try.ntmps83
    go_wp2_with (first
      | (refine wpList_alloc_mem hM rfl 26 rfl _ zero32 ?_; clear hM; intro g6 w6 hM)
      | (refine wpList_build_to rfl 26 _ rfl (hv zeros32) (by kernel_rfl) ?_)
      | (refine wpList_store_mem rfl 26 _ _ rfl hM 0 _ _ _ (hv zeros32) rfl rfl rfl (size32 _ rfl) rfl (oneCells8 _) ?_; clear hM; intro w9 hM _))
    exact bodyPost_row rfl rfl _ _ _ (hM.blk 0 rfl) rfl (.array 32 5) (by kernel_rfl) rfl (size32 _ rfl) ⟨rfl, hM.grow⟩
  · have h1 : (ks.length : Int) ≤ i := by omega
    have hcap := h.cap
    go_enter Try.func83, Try.ntmps83
    go_wp2_with (first
      | (refine wpList_alloc_mem hM rfl 26 rfl _ zero32 ?_; clear hM; intro g6 w6 hM)
      | (go_at_call 46; refine (Nodes_any _ g c A ks (h.grow hM.grow)).mono ?_; rintro e w7 ⟨rfl, rfl⟩)
      | (refine wpList_build_to rfl 26 _ rfl (hv zeros32) (by kernel_rfl) ?_)
      | (refine wpList_store_mem rfl 26 _ _ rfl hM 0 _ _ _ (hv zeros32) rfl rfl rfl (size32 _ rfl) rfl (oneCells8 _) ?_; clear hM; intro w9 hM _))
    exact bodyPost_row rfl rfl _ _ _ (hM.blk 0 rfl) rfl (.array 32 5) (by kernel_rfl) rfl (size32 _ rfl) ⟨rfl, hM.grow⟩
set_option maxRecDepth 100000 in
theorem Seal_in (w : World) (g c n d k : Nat) (A B : Option Addr) (ks : List (List (BitVec 8))) (l : List (BitVec 8)) (h : RingIs w g A c 56 ks) (hk : k < ks.length) (hb : Bytes w w.heap.size B n l) (hn : n ≤ 140737488340000) :
    Calls Try.prog 83 #[.pointer (some ⟨g, 0, none⟩), .int .i64 k, .slice B n d] w fun e w' => e = .returned (.agg (hv (mac ks[k] l))) ∧ Grow w noOwn w' := by
  have hM := Mem.nil w noOwn
  have hml : (mac ks[k] l).length = 32 := sha_length _
  obtain ⟨b, off, rfl, _, _⟩ := h.reads.form (by omega) (by decide)
  go_enter Try.func83, Try.ntmps83
  go_wp2_with (first
    | (refine wpList_alloc_mem hM rfl 26 rfl _ zero32 ?_; clear hM; intro g6 w6 hM; have h6 := h.grow hM.grow; have c6 := h6.blk.cell 0)
    | (go_at_call 46; refine (Nodes_any _ g c _ ks h6).mono ?_; rintro e w7 ⟨rfl, rfl⟩)
    | (go_at_call 93; refine (Mac_any _ 32 32 n d _ _ ks[k] l (key_bytes h6.reads h.key k hk) (by omega) (by omega) ((hb.grow hM.grow (Nat.le_refl _) (fun _ _ e => e)).more hM.grow.size) (by omega)).mono ?_; rintro e w8 ⟨rfl, hg⟩; replace hM := hM.call hg)
    | (refine wpList_store_mem rfl 26 _ _ rfl hM 0 _ _ _ (hv (mac ks[k] l)) rfl rfl rfl (size32 _ hml) (hvz _ hml) (oneCells8 _) ?_; clear hM; intro w9 hM _))
  exact bodyPost_row rfl rfl _ _ _ (hM.blk 0 rfl) rfl (.array 32 5) (by kernel_rfl) rfl (size32 _ hml) ⟨rfl, hM.grow⟩
theorem Seal_any (w : World) (g c n d : Nat) (A B : Option Addr) (ks : List (List (BitVec 8))) (i : Int) (l : List (BitVec 8)) (h : RingIs w g A c 56 ks) (hb : Bytes w w.heap.size B n l) (hn : n ≤ 140737488340000) :
    Calls Try.prog 83 #[.pointer (some ⟨g, 0, none⟩), .int .i64 i, .slice B n d] w fun e w' => e = .returned (.agg (hv (sealOf ks i l))) ∧ Grow w noOwn w' := by
  by_cases hi : 0 ≤ i ∧ i < ks.length
  · obtain ⟨k, rfl⟩ : ∃ k : Nat, i = k := ⟨i.toNat, by omega⟩
    rw [sealOf_in ks k l (by omega)]
    exact Seal_in w g c n d k A B ks l h (by omega) hb hn
  · rw [sealOf_out ks i l hi]
    exact Seal_out w g c n d A B ks i h hi
end Go.Proofs.Ytkcmnhmbpamehaa
