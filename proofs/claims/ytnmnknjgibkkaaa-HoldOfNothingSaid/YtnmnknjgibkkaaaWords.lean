/- Words for bytes and 32-bit numbers as values, opaque to the walk. -/
import Derived.WalkKit
import Derived.WalkSpells
import Derived.WalkLawsBesides
namespace Go.Proofs.Ytnmnknjgibkkaaa
open Go.RowKit

/-- A uint32 as a value. -/
def V32 (x : BitVec 32) : Value := .int .u32 (x.toNat : Int)
/-- A byte as a value. -/
def V8 (x : BitVec 8) : Value := .int .u8 (x.toNat : Int)

theorem V32_mk (n : Nat) (h : n < 4294967296) : Value.int .u32 (n : Int) = V32 (BitVec.ofNat 32 n) := by
  unfold V32; rw [BitVec.toNat_ofNat, Nat.mod_eq_of_lt (by omega)]
theorem V8_mk (n : Nat) (h : n < 256) : Value.int .u8 (n : Int) = V8 (BitVec.ofNat 8 n) := by
  unfold V8; rw [BitVec.toNat_ofNat, Nat.mod_eq_of_lt (by omega)]
theorem V32_inj {x y : BitVec 32} (h : V32 x = V32 y) : x = y := by
  unfold V32 at h; injection h with _ h; exact BitVec.eq_of_toNat_eq (by omega)
theorem V8_inj {x y : BitVec 8} (h : V8 x = V8 y) : x = y := by
  unfold V8 at h; injection h with _ h; exact BitVec.eq_of_toNat_eq (by omega)

section
variable (t : TypeId) (x y : BitVec 32) (a b : BitVec 8)
@[go_sem] theorem V32_add : binOp .add t (V32 x) (V32 y) = pure (V32 (x + y)) := by
  unfold V32; simp only [binOp_add, Op.intArith, IntKind.wrap_u32', BitVec.toNat_add]; rfl
@[go_sem] theorem V32_xor : binOp .xor t (V32 x) (V32 y) = pure (V32 (x ^^^ y)) := by
  unfold V32; simp only [binOp_xor, intBits_xor, u32_xor_nat _ _ x.isLt y.isLt, BitVec.toNat_xor]
@[go_sem] theorem V32_or : binOp .or t (V32 x) (V32 y) = pure (V32 (x ||| y)) := by
  unfold V32; simp only [binOp_or, intBits_or, u32_or_nat _ _ x.isLt y.isLt, BitVec.toNat_or]
@[go_sem] theorem V32_and : binOp .and t (V32 x) (V32 y) = pure (V32 (x &&& y)) := by
  unfold V32; simp only [binOp_and, intBits_and, u32_and_nat _ _ x.isLt y.isLt, BitVec.toNat_and]
@[go_sem] theorem V8_xor : binOp .xor t (V8 a) (V8 b) = pure (V8 (a ^^^ b)) := by
  unfold V8; simp only [binOp_xor, intBits_xor, u8_xor_nat _ _ a.isLt b.isLt, BitVec.toNat_xor]
@[go_sem] theorem V8_and : binOp .and t (V8 a) (V8 b) = pure (V8 (a &&& b)) := by
  unfold V8; simp only [binOp_and, intBits_and, u8_and_nat _ _ a.isLt b.isLt, BitVec.toNat_and]
@[go_sem] theorem V8_eql : binOp .eql t (V8 a) (V8 b) = pure (.bool (a == b)) := by
  unfold V8; rw [binOp_eql]; congr 2
  rw [Bool.eq_iff_iff, beq_iff_eq, beq_iff_eq]
  exact ⟨fun h => BitVec.eq_of_toNat_eq (by omega), fun h => by rw [h]⟩
@[go_sem] theorem V8_neq : binOp .neq t (V8 a) (V8 b) = pure (.bool (a != b)) := by
  unfold V8; rw [binOp_neq]; congr 2
  rw [Bool.eq_iff_iff, bne_iff_ne, bne_iff_ne]
  exact ⟨fun h e => h (by rw [e]), fun h e => h (BitVec.eq_of_toNat_eq (by omega))⟩
@[go_sem] theorem V32_shr (yk : IntKind) (n : Int) (h : 0 ≤ n) (h2 : n ≤ 32) : binOp .shr t (V32 x) (.int yk n) = pure (V32 (x >>> n.toNat)) := by
  unfold V32; rw [binOp_shr, shift_shr _ _ _ _ h (by show n ≤ 32; exact h2), BitVec.toNat_ushiftRight, Nat.shiftRight_eq_div_pow]
  rfl
@[go_sem] theorem V32_shl (yk : IntKind) (n : Int) (h : 0 ≤ n) (h2 : n ≤ 32) : binOp .shl t (V32 x) (.int yk n) = pure (V32 (x <<< n.toNat)) := by
  unfold V32; rw [binOp_shl, shift_shl _ _ _ _ h (by show n ≤ 32; exact h2), BitVec.toNat_shiftLeft, Nat.shiftLeft_eq, IntKind.wrap_u32']
  congr 2
@[go_sem] theorem V8_shr (yk : IntKind) (n : Int) (h : 0 ≤ n) (h2 : n ≤ 8) : binOp .shr t (V8 a) (.int yk n) = pure (V8 (a >>> n.toNat)) := by
  unfold V8; rw [binOp_shr, shift_shr _ _ _ _ h (by show n ≤ 8; exact h2), BitVec.toNat_ushiftRight, Nat.shiftRight_eq_div_pow]
  rfl
@[go_sem] theorem V32_not : Op.unary .xor (V32 x) = pure (V32 (~~~x)) := by
  unfold V32; simp only [unary_xor, IntKind.signed, Bool.false_eq_true, if_false, intBits_xor]
  have hm : IntKind.u32.max = ((4294967295 : Nat) : Int) := by decide
  rw [hm, u32_xor_nat _ _ (by decide) x.isLt]
  have : (~~~x) = (BitVec.ofNat 32 4294967295) ^^^ x := by
    have h : BitVec.ofNat 32 4294967295 = BitVec.allOnes 32 := by decide
    rw [h, BitVec.allOnes_xor]
  rw [this, BitVec.toNat_xor]; rfl
theorem store_V32 (P : Program) (w : World) (a : Addr) (m : Mode) : (store a (V32 x) m).run P w = stored P w a (V32 x) m := run_store P w a _ m rfl
theorem store_V8 (P : Program) (w : World) (p : Addr) (m : Mode) : (store p (V8 a) m).run P w = stored P w p (V8 a) m := run_store P w p _ m rfl
attribute [go_sem] store_V32 store_V8
@[go_sem] theorem V8_to_32 {P : Program} (w : World) (src dst : TypeId) (hs : (P.underlying src).isSome = true) (hd : P.underlying dst = some (.int .u32)) :
    (convert src dst (V8 a)).run P w = .ok (V32 (a.setWidth 32)) w := by
  have hk : P.intKind dst = .u32 := by simp [Program.intKind, hd]
  unfold V8 V32
  rw [run_convert_int w src dst _ _ hs (by rw [hd, hk]), hk, IntKind.wrap_u32', BitVec.toNat_setWidth]
  congr 2
@[go_sem] theorem V32_to_8 {P : Program} (w : World) (src dst : TypeId) (hs : (P.underlying src).isSome = true) (hd : P.underlying dst = some (.int .u8)) :
    (convert src dst (V32 x)).run P w = .ok (V8 (x.setWidth 8)) w := by
  have hk : P.intKind dst = .u8 := by simp [Program.intKind, hd]
  unfold V8 V32
  rw [run_convert_int w src dst _ _ hs (by rw [hd, hk]), hk, IntKind.wrap_u8', BitVec.toNat_setWidth]
  congr 2
@[go_sem] theorem V32_guard (op : BinOp) (p q : Operand) (v : Value) : eqGuard op t p q (V32 x) v = pure () := by unfold V32; exact eqGuard_at_int ..
@[go_sem] theorem V8_guard (op : BinOp) (p q : Operand) (v : Value) : eqGuard op t p q (V8 a) v = pure () := by unfold V8; exact eqGuard_at_int ..
@[go_sem] theorem V32_cells : (V32 x).cells = #[V32 x] := rfl
@[go_sem] theorem V8_cells : (V8 a).cells = #[V8 a] := rfl
@[go_sem] theorem V32_cells_match {α : Type} (f : Array Value → α) (g : Value → α) : Value.cells.match_1 (fun _ => α) (V32 x) f g = g (V32 x) := rfl
@[go_sem] theorem V8_cells_match {α : Type} (f : Array Value → α) (g : Value → α) : Value.cells.match_1 (fun _ => α) (V8 a) f g = g (V8 a) := rfl
end
end Go.Proofs.Ytnmnknjgibkkaaa
