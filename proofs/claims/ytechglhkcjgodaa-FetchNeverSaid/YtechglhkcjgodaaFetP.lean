/- fetch's laws: FetchPieces. -/
import Derived.Test.YtechglhkcjgodaaFetK1
import Derived.Test.YtechglhkcjgodaaFetJ2
import Derived.Test.YtechglhkcjgodaaReadX
namespace Go.Proofs.Ytechglhkcjgodaa
open Go.RowKit Go.MapKept
set_option linter.unusedSimpArgs false
set_option linter.unusedVariables false
theorem and15 (e : Int) : ∃ q : Nat, bits .and .i64 e 15 = (q : Int) ∧ q ≤ 15 := by
  have h2 : (BitVec.ofInt 64 15).toNat = 15 := by decide
  have hle : (BitVec.ofInt 64 e &&& BitVec.ofInt 64 15).toNat ≤ 15 := by
    rw [BitVec.toNat_and, h2]
    exact Nat.and_le_right
  refine ⟨(BitVec.ofInt 64 e &&& BitVec.ofInt 64 15).toNat, ?_, hle⟩
  show IntKind.i64.wrap ((BitVec.ofInt 64 e &&& BitVec.ofInt 64 15).toNat : Int) = _
  generalize (BitVec.ofInt 64 e &&& BitVec.ofInt 64 15).toNat = q at hle ⊢
  have hw : IntKind.i64.wrap (q : Int) = (q : Int) := by
    unfold IntKind.wrap
    simp [IntKind.bits, IntKind.signed]
    omega
  exact hw
theorem pick_list {α : Type} {Q : Nat → α → Prop} : ∀ n, (∀ i, i < n → ∃ z, Q i z) → ∃ l : List α, l.length = n ∧ ∀ i (h : i < l.length), Q i l[i]
  | 0, _ => ⟨[], rfl, fun i h => by simp at h⟩
  | n + 1, h => by
    obtain ⟨l, hl, hq⟩ := pick_list n (fun i hi => h i (by omega))
    obtain ⟨z, hz⟩ := h n (by omega)
    refine ⟨l ++ [z], by simp [hl], fun i hi => ?_⟩
    by_cases hi2 : i < l.length
    · rw [List.getElem_append_left hi2]; exact hq i hi2
    · have e : i = n := by simp at hi; omega
      subst e
      rw [List.getElem_append_right (by omega)]
      simpa [hl] using hz
theorem RdV.ones {P : Program} {w : World} {t e : TypeId} {v : Value} {α : Type} (f : α → Value) (h : RdV P w t v) (ht : P.underlying t = some (.slice e)) (hc : P.cellsOf e = 1) (hb : 0 < P.bytesOf e)
    (hr : ∀ m xs, Rdw P w 140737488351232 m e xs → ∃ z : α, xs = [f z]) : ∃ A n c, ∃ l : List α, v = .slice A n c ∧ n ≤ c ∧ n ≤ 140737488351232 ∧ l.length = n ∧ Reads w w.heap.size 1 A n (l.map f) := by
  obtain ⟨A, n, c, rfl, h1, h2, h3, h4, m, h5⟩ := h.slice ht
  have hn : n ≤ 140737488351232 := Nat.le_trans (Nat.le_mul_of_pos_right n hb) h3
  rw [hc] at h5
  have key : ∀ i, i < n → ∃ z : α, ∃ ad, A = some ad ∧ ad.block < w.heap.size ∧ w.cell? (ad.add i) = some (f z) := by
    intro i hi
    rcases A with _ | ad
    · have := (h4 rfl).1; omega
    obtain ⟨xs, hx, hx2⟩ := h5 ad rfl i hi
    obtain ⟨z, rfl⟩ := hr m xs hx2
    obtain ⟨b, off, e1, hb1, hrg, _⟩ := cells_range hx (by omega)
    rw [Nat.mul_one] at e1
    refine ⟨z, ad, rfl, ?_, ?_⟩
    · have := congrArg Addr.block e1
      rw [block_of_add] at this
      rw [this]; exact hb1
    · rw [e1]
      exact hrg 0 _ rfl
  obtain ⟨l, hl, hq⟩ := pick_list n key
  refine ⟨A, n, c, l, rfl, h1, hn, hl, by simp [hl], fun hn0 => ?_⟩
  obtain ⟨ad, e1, hb1, _⟩ := hq 0 (by omega)
  refine ⟨ad, e1, hb1, fun j u hu => ?_⟩
  have hj : j < l.length := by simpa using (List.getElem?_eq_some_iff.1 hu).1
  obtain ⟨ad', e2, _, hc'⟩ := hq j hj
  rw [e1] at e2
  injection e2 with e2
  subst e2
  rw [hc']
  rw [← hu, List.getElem?_map, List.getElem?_eq_getElem hj]
  rfl
theorem RdV.ints {w : World} {v : Value} (h : RdV Try.prog w 23 v) : ∃ A n c, ∃ l : List Int, v = .slice A n c ∧ n ≤ c ∧ n ≤ 140737488351232 ∧ l.length = n ∧ Reads w w.heap.size 1 A n (l.map (Value.int .i64)) :=
  h.ones _ Try.underlying23 (by kernel_rfl) (Nat.lt_of_lt_of_eq (by decide : 0 < 8) (by kernel_rfl : 8 = Try.prog.bytesOf 3)) (fun m xs hx => by
    obtain ⟨z, e, _⟩ := rdw_i64 hx Try.underlying3
    exact ⟨z, e⟩)
theorem one_cell {w : World} {B n : Nat} {A : Option Addr} {α : Type} {f : α → Value} {l : List α} (h : Reads w B 1 A n (l.map f)) (hl : l.length = n) (k : Nat) (hk : k < l.length) : ∃ b off, A = some ⟨b, off, none⟩ ∧ b < B ∧ w.cell? ⟨b, off + k, none⟩ = some (f l[k]) := by
  obtain ⟨b, off, e, hb, hc⟩ := h.form (by omega) (by decide)
  exact ⟨b, off, e, hb, hc k _ (by simp [hk])⟩
theorem scan_spec (mf : Rec → Bool) (en most : Int) : ∀ (rs : List Rec) (i : Nat) (out : List Rec), ∃ k, k ≤ rs.length ∧ scan mf en most rs i out = (out ++ (rs.take k).filter mf, i + k) ∧
    (k < rs.length → en ≤ ((i + k : Nat) : Int) ∨ most ≤ ((out ++ (rs.take k).filter mf).length : Int)) ∧ (0 < k → ((i + k : Nat) : Int) ≤ en) ∧ ((out.length : Int) ≤ most → ((out ++ (rs.take k).filter mf).length : Int) ≤ most)
  | [], i, out => ⟨0, Nat.le_refl _, by simp [scan], fun h => absurd h (Nat.lt_irrefl _), fun h => absurd h (Nat.lt_irrefl _), fun h => by simpa using h⟩
  | r :: rs, i, out => by
    by_cases hs : en ≤ (i : Int) ∨ most ≤ (out.length : Int)
    · exact ⟨0, Nat.zero_le _, by rw [scan_stop hs]; simp, fun _ => by simpa using hs, fun h => absurd h (Nat.lt_irrefl _), fun h => by simpa using h⟩
    · obtain ⟨k, h1, h2, h3, h4, h5⟩ := scan_spec mf en most rs (i + 1) (if mf r then out ++ [r] else out)
      have e : (if mf r then out ++ [r] else out) ++ (rs.take k).filter mf = out ++ ((r :: rs).take (k + 1)).filter mf := by
        rw [List.take_succ_cons, List.filter_cons]
        split <;> simp
      rw [e] at h2 h3 h5
      refine ⟨k + 1, by simp; omega, ?_, ?_, ?_, ?_⟩
      · rw [scan_go hs, h2]
        congr 1
        omega
      · intro hk
        have := h3 (by simpa using hk)
        rwa [show i + 1 + k = i + (k + 1) from by omega] at this
      · intro _
        rcases Nat.eq_zero_or_pos k with rfl | hp
        · omega
        · have := h4 hp
          omega
      · intro _
        refine h5 ?_
        split
        · simp; omega
        · omega
/-- What a piece is read by. -/
def mfOf (m : PL) (cm : Bool) : Rec → Bool := if cm then (fun r => comS m.spans r.p r.e r.t) else (fun _ => true)
def enOf (m : PL) (cm : Bool) : Int := if cm then m.stable else m.recs.length
structure Piece (m : PL) (cm : Bool) (at_ : Nat) (n : Int) (k : Nat) (out : List Rec) : Prop where
  hk : at_ + k ≤ m.recs.length
  eq : (m.recs.take at_).filter (mfOf m cm) ++ out = (m.recs.take (at_ + k)).filter (mfOf m cm)
  nil : k = 0 → out = []
  stop : k = 0 → at_ = m.recs.length ∨ enOf m cm ≤ at_
  lim : 0 < k → ((at_ + k : Nat) : Int) ≤ enOf m cm
  cap : (out.length : Int) ≤ n
theorem piece_scan (m : PL) (cm : Bool) (at_ : Nat) (n : Int) (hn : 1 ≤ n) (ha : at_ ≤ m.recs.length) : ∃ k out, scan (mfOf m cm) (enOf m cm) n (m.recs.drop at_) at_ [] = (out, at_ + k) ∧ Piece m cm at_ n k out := by
  obtain ⟨k, h1, h2, h3, h4, h5⟩ := scan_spec (mfOf m cm) (enOf m cm) n (m.recs.drop at_) at_ []
  rw [List.length_drop] at h1 h3
  simp only [List.nil_append] at h2 h3 h5
  refine ⟨k, _, h2, by omega, ?_, ?_, ?_, h4, h5 (by simp; omega)⟩
  · rw [List.take_add, List.filter_append]
  · rintro rfl
    simp
  · rintro rfl
    rcases Nat.lt_or_ge at_ m.recs.length with h | h
    · rcases h3 (by omega) with h | h
      · exact .inr (by simpa using h)
      · simp at h
        omega
    · exact .inl (by omega)
theorem offs_nat (a : Nat) : offs (a : Int) = a := by unfold offs; omega
theorem com_scan (m : PL) (a : Nat) (n : Int) : comF m a n = scan (mfOf m true) (enOf m true) n (m.recs.drop a) a [] := by
  unfold comF mfOf enOf
  rw [offs_nat]
  simp
theorem any_scan (m : PL) (a : Nat) (n : Int) : anyF m a n = scan (mfOf m false) (enOf m false) n (m.recs.drop a) a [] := by
  unfold anyF mfOf enOf
  rw [offs_nat]
  simp
/-- All at once, and all pieces. -/
theorem whole {m : PL} (ok : m.Ok) (cm : Bool) (a : Nat) (ha : a ≤ m.recs.length) (h1 : a = 0 ∨ (a : Int) ≤ enOf m cm) (h2 : a = m.recs.length ∨ enOf m cm ≤ a) :
    (scan (mfOf m cm) (enOf m cm) 1000 (m.recs.drop 0) 0 []).1 = (m.recs.take a).filter (mfOf m cm) := by
  have hl := ok.len
  obtain ⟨k, g1, g2, g3, g4, g5⟩ := scan_spec (mfOf m cm) (enOf m cm) 1000 (m.recs.drop 0) 0 []
  rw [g2]
  simp only [List.drop_zero, List.nil_append, Nat.zero_add] at g1 g3 g4 ⊢
  have hf : ((m.recs.take k).filter (mfOf m cm)).length ≤ 128 := Nat.le_trans (List.length_filter_le _ _) (by rw [List.length_take]; omega)
  have e : k = a := by
    by_cases hk : k < m.recs.length
    · rcases g3 hk with h | h <;> omega
    · omega
  rw [e]
theorem perm_piece (a x y : Item) (X L : List Item) : (a :: (X ++ (x :: y :: L))).Perm (x :: a :: (X ++ (y :: L))) := by
  have h : (X ++ (x :: y :: L)).Perm (x :: (X ++ (y :: L))) := List.perm_middle
  exact (List.Perm.cons a h).trans (List.Perm.swap _ _ _)
section
variable {P : Program} {l : List Oper} {rest : List Oper} {o : Oper} {w w0 : World} {own : Nat → Prop} {L : List Item} {Q : Exit → Act → World → Prop} {T0 : List Value} {d0 : List Deferred}
theorem wl_appr {s x : Operand} {T : TypeId} (ho : o.op = .call { callee := .builtin .append, args := #[s, x], argTypes := #[T, T] }) (hM : Mem w0 own w L) (hgd : wantB l T0 o.guard = some true) {e : TypeId} {z : Value} {size bytes : Nat} (ht : TySl P T e z size bytes)
    {v : Value} (hs : ev T0 s = some (v)) {A : Option Addr} {m c : Nat} (hx : ev T0 x = some (.slice A m c)) {news : List Value} (hr : Reads w w.heap.size size A m news) (h1 : ∀ u ∈ news, u.oneCell' = true)
    {i n k : Nat} {xs ys : List Value} (hp : RowIx L v i e size n xs) (h63 : n + m ≤ maxLen) (hbytes : (n + m) * bytes ≤ 140737488355328) (hk : n + m = k) (hys : xs ++ news = ys)
    (h : ∀ A' c' w', Mem w0 own w' (L.set i (.row (.slice A' k c') e size k ys)) → wpList P l.toArray Q rest ⟨(putT T0 o.dst (.slice A' k c')).toArray, d0⟩ w') : wpList P l.toArray Q (o :: rest) ⟨T0.toArray, d0⟩ w :=
  wpList_append_row (want_of hgd) s x T ho hM i v e size n xs hp.out (ev_of hs) ht.under z bytes ht.row ht.zs ht.pos w.heap.size A m c news (ev_of hx) hr h1 h63 hbytes k hk ys hys (by simp only [put_of]; exact h)
end
theorem vrows_one {w0 w : World} {own : Nat → Prop} {L : List Item} : ∀ (rs : List Rec) (vs : List Value), vs.length = rs.length → Mem w0 own w (VRows rs vs ++ L) → ∀ i (h : i < vs.length), vs[i].oneCell' = true
  | [], [], _, _, i, h => by simp at h
  | [], _ :: _, hl, _, _, _ => by simp at hl
  | _ :: _, [], hl, _, _, _ => by simp at hl
  | r :: rs, v :: vs, hl, hM, i, h => by
    have hM1 : Mem w0 own w (.row v 5 1 r.v.length (r.v.map V8) :: (VRows rs vs ++ L)) := hM
    cases i with
    | zero =>
      have hrow : w.ownsRow 0 5 1 v r.v.length (r.v.map V8) := hM1.row 0 rfl
      obtain ⟨D, c, rfl, _, _⟩ := row_form hrow
      rfl
    | succ i => exact vrows_one rs vs (by simpa using hl) hM1.tail i (by simpa using h)
theorem vrows_app : ∀ (l : List Rec) (vs : List Value) (r : List Rec) (us : List Value), vs.length = l.length → VRows (l ++ r) (vs ++ us) = VRows l vs ++ VRows r us
  | [], [], _, _, _ => rfl
  | [], _ :: _, _, _, h => by simp at h
  | _ :: _, [], _, _, h => by simp at h
  | x :: l, v :: vs, r, us, h => by
    have := vrows_app l vs r us (by simpa using h)
    show Item.row v 5 1 x.v.length (x.v.map V8) :: VRows (l ++ r) (vs ++ us) = Item.row v 5 1 x.v.length (x.v.map V8) :: VRows l vs ++ VRows r us
    rw [this]
    rfl
theorem perm_p2 (p a : Item) (V1 V2 R : List Item) : (V2 ++ (p :: ((a :: V1) ++ R))).Perm (a :: ((V1 ++ V2) ++ (p :: R))) := by
  have h1 : (V2 ++ ((p :: a :: V1) ++ R)).Perm ((p :: a :: V1) ++ (V2 ++ R)) := List.perm_append_comm_assoc _ _ _
  have h2 : ((p :: a :: V1) ++ (V2 ++ R)).Perm (a :: p :: (V1 ++ (V2 ++ R))) := List.Perm.swap _ _ _
  have h3 : (a :: p :: (V1 ++ (V2 ++ R))).Perm (a :: ((V1 ++ V2) ++ (p :: R))) := List.Perm.cons _ (by
    rw [List.append_assoc]
    have : (V1 ++ (V2 ++ (p :: R))).Perm (p :: (V1 ++ (V2 ++ R))) := by
      rw [← List.append_assoc, ← List.append_assoc]
      exact List.perm_middle
    exact this.symm)
  exact (h1.trans h2).trans h3
theorem sc_any {m : PL} (ok : m.Ok) {a : Nat} {all : List Rec} (ha : a ≤ m.recs.length) (h1 : a = 0 ∨ (a : Int) ≤ enOf m false) (h2 : a = m.recs.length ∨ enOf m false ≤ a) (h : all = (m.recs.take a).filter (mfOf m false)) : (anyF m 0 1000).1 = all := by
  have := whole ok false a ha h1 h2
  rw [← any_scan m 0 1000] at this
  rw [h, ← this]
  rfl
theorem sc_com {m : PL} (ok : m.Ok) {a : Nat} {all : List Rec} (ha : a ≤ m.recs.length) (h1 : a = 0 ∨ (a : Int) ≤ enOf m true) (h2 : a = m.recs.length ∨ enOf m true ≤ a) (h : all = (m.recs.take a).filter (mfOf m true)) : (comF m 0 1000).1 = all := by
  have := whole ok true a ha h1 h2
  rw [← com_scan m 0 1000] at this
  rw [h, ← this]
  rfl
theorem filt_len {m : PL} (ok : m.Ok) {a : Nat} {all : List Rec} {cm : Bool} (h : all = (m.recs.take a).filter (mfOf m cm)) : all.length ≤ 128 := by
  have := ok.len
  rw [h]
  exact Nat.le_trans (List.length_filter_le _ _) (by rw [List.length_take]; omega)
attribute [local irreducible] wpList Code.wp GW Calls
theorem Com_p {w0 w : World} {own : Nat → Prop} {L : List Item} {g : Nat} {F : Nat → Prop} {m : PL} (hM : Mem w0 own w (.res F (LogP F g m) :: L)) (ok : m.Ok) (hsl' : m.spans.length ≤ 1000000) (at_ : Nat) (n : Int) (hn : 1 ≤ n) (ha : at_ ≤ m.recs.length) :
    Calls Try.prog 12 #[.pointer (some ⟨g, 0, none⟩), .int .i64 at_, .int .i64 n] w fun e w' => ∃ k out A c vs, Piece m true at_ n k out ∧ e = .returned (.tuple #[.slice A out.length c, .int .i64 ((at_ + k : Nat) : Int)]) ∧ vs.length = out.length ∧
      (∀ u ∈ recCells out vs, u.oneCell' = true) ∧ Mem w0 own w' (.row (.slice A out.length c) 42 5 out.length (recCells out vs) :: (VRows out vs ++ (.res F (LogP F g m) :: L))) := by
  have h := Committed_any hM ok hsl' at_ n
  rw [com_scan] at h
  obtain ⟨k, out, e, hp⟩ := piece_scan m true at_ n hn ha
  rw [e] at h
  exact h.mono fun e w' ⟨A, c, vs, h1, h2, h3⟩ => ⟨k, out, A, c, vs, hp, h1, h2, recCells_one' h2 (vrows_one out vs h2 (Mem.tail h3)), h3⟩
theorem Any_p {w0 w : World} {own : Nat → Prop} {L : List Item} {g : Nat} {F : Nat → Prop} {m : PL} (hM : Mem w0 own w (.res F (LogP F g m) :: L)) (ok : m.Ok) (at_ : Nat) (n : Int) (hn : 1 ≤ n) (ha : at_ ≤ m.recs.length) :
    Calls Try.prog 13 #[.pointer (some ⟨g, 0, none⟩), .int .i64 at_, .int .i64 n] w fun e w' => ∃ k out A c vs, Piece m false at_ n k out ∧ e = .returned (.tuple #[.slice A out.length c, .int .i64 ((at_ + k : Nat) : Int)]) ∧ vs.length = out.length ∧
      (∀ u ∈ recCells out vs, u.oneCell' = true) ∧ Mem w0 own w' (.row (.slice A out.length c) 42 5 out.length (recCells out vs) :: (VRows out vs ++ (.res F (LogP F g m) :: L))) := by
  have h := Any_any hM ok at_ n
  rw [any_scan] at h
  obtain ⟨k, out, e, hp⟩ := piece_scan m false at_ n hn ha
  rw [e] at h
  exact h.mono fun e w' ⟨A, c, vs, h1, h2, h3⟩ => ⟨k, out, A, c, vs, hp, h1, h2, recCells_one' h2 (vrows_one out vs h2 (Mem.tail h3)), h3⟩
theorem RefAny_p {w0 w : World} {own : Nat → Prop} {L : List Item} {F2 : Nat → Prop} {g2 : Nat} {A2 B2 : Option Addr} {ca cb : Nat} {m : PL} {v2 : List Value} {V : Nat → Prop} (hM : Mem w0 own w (.res F2 (RefE F2 g2 A2 B2 ca cb m v2 V) :: L)) (ok : m.Ok) {out : List Rec} (h : (anyF m 0 1000).1 = out) :
    Calls Try.prog 14 #[.pointer (some ⟨g2, 0, none⟩), .int .i64 0, .int .i64 1000] w fun e w' => ∃ A c us z, e = .returned (.tuple #[.slice A out.length c, z]) ∧ RefOut m v2 out us ∧
      Mem w0 own w' (.row (.slice A out.length c) 42 5 out.length (recCells out us) :: .res F2 (RefE F2 g2 A2 B2 ca cb m v2 V) :: L) := by
  subst h
  exact (RefAny_any hM ok 0 1000).mono fun e w' ⟨A, c, us, h1, h2, h3⟩ => ⟨A, c, us, _, h1, h2, h3⟩
theorem RefCom_p {w0 w : World} {own : Nat → Prop} {L : List Item} {F2 : Nat → Prop} {g2 : Nat} {A2 B2 : Option Addr} {ca cb : Nat} {m : PL} {v2 : List Value} {V : Nat → Prop} (hM : Mem w0 own w (.res F2 (RefE F2 g2 A2 B2 ca cb m v2 V) :: L)) (ok : m.Ok) (hsl' : m.spans.length ≤ 1000000) {out : List Rec} (h : (comF m 0 1000).1 = out) :
    Calls Try.prog 15 #[.pointer (some ⟨g2, 0, none⟩), .int .i64 0, .int .i64 1000] w fun e w' => ∃ A c us z, e = .returned (.tuple #[.slice A out.length c, z]) ∧ RefOut m v2 out us ∧
      Mem w0 own w' (.row (.slice A out.length c) 42 5 out.length (recCells out us) :: .res F2 (RefE F2 g2 A2 B2 ca cb m v2 V) :: L) := by
  subst h
  exact (RefCommitted_any hM ok hsl' 0 1000).mono fun e w' ⟨A, c, us, h1, h2, h3⟩ => ⟨A, c, us, _, h1, h2, h3⟩
theorem pack_out {w0 w : World} {own : Nat → Prop} {L : List Item} {A : Option Addr} {c : Nat} {rs : List Rec} {vs : List Value} (hM : Mem w0 own w (.row (.slice A rs.length c) 42 5 rs.length (recCells rs vs) :: (VRows rs vs ++ L))) : Mem w0 own w (.res (blocks (outX A c rs vs)) (AllOf (outX A c rs vs)) :: L) :=
  Mem.pack (X := outX A c rs vs) hM
end Go.Proofs.Ytechglhkcjgodaa
