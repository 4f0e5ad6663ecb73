/-
  MACHINE WORDS FOR THE WALK, MORE: conversions between int64, uint32 and bytes. No condition.
-/
import Derived.Test.YtdgjdbpbnipjcaaBase7
import Derived.Deep.MidRow
namespace Go.Proofs.Ytdgjdbpbnipjcaa
open Go.RowKit
set_option linter.unusedVariables false

section
variable {P : Program} (w : World) (src dst : TypeId)
@[go_sem ↓] theorem conv_i64_u32 (n : Int) (hs : (P.underlying src).isSome = true) (hd : P.underlying dst = some (.int .u32)) :
    (convert src dst (.int .i64 n)).run P w = .ok (u32 (BitVec.ofInt 32 n)) w := by
  rw [run_conv_k w src dst _ _ .u32 hs hd, u32, IntKind.wrap_u32, BitVec.toNat_ofInt]; congr 2 <;> omega
@[go_sem ↓] theorem conv_u32_i64 (a : BitVec 32) (hs : (P.underlying src).isSome = true) (hd : P.underlying dst = some (.int .i64)) :
    (convert src dst (u32 a)).run P w = .ok (.int .i64 (a.toNat : Int)) w := by
  have h := a.isLt
  rw [u32, run_conv_k w src dst _ _ .i64 hs hd, IntKind.wrap_i64]
  exact congrArg (fun x => Result.ok (Value.int .i64 x) w) (by omega)
@[go_sem ↓] theorem conv_u32_b8 (a : BitVec 32) (hs : (P.underlying src).isSome = true) (hd : P.underlying dst = some (.int .u8)) :
    (convert src dst (u32 a)).run P w = .ok (b8 (UInt8.ofNat a.toNat)) w := by
  rw [u32, run_conv_k w src dst _ _ .u8 hs hd, b8, IntKind.wrap_u8, UInt8.toNat_ofNat']; congr 2
end
@[go_sem ↓] theorem u32_not (a : BitVec 32) : Op.unary .xor (u32 a) = pure (u32 (~~~ a)) := by
  show Op.intBits .xor .u32 (4294967295 : Int) (a.toNat : Int) = _
  simp only [Op.intBits, IntKind.bits, ofInt_toNat]
  rw [show ∀ x : BitVec 32, IntKind.u32.wrap (x.toNat : Int) = x.toNat from fun x => wrap_u32_nat _ x.isLt]
  have e : BitVec.ofInt 32 4294967295 ^^^ a = ~~~ a := by
    rw [show BitVec.ofInt 32 4294967295 = BitVec.allOnes 32 from by decide]
    exact BitVec.allOnes_xor
  exact congrArg (fun x : BitVec 32 => (pure (Value.int .u32 (x.toNat : Int)) : Sem Value)) e
end Go.Proofs.Ytdgjdbpbnipjcaa

namespace Go.Proofs.Ytdgjdbpbnipjcaa
open Go.RowKit
set_option linter.unusedVariables false

theorem wpList_store_run {P : Program} {ops : Array Oper} {rest : List Oper} {op : Oper} {a : Act} {w w' : World} {Q : Exit → Act → World → Prop} (hgd : op.guard = none) (ty : TypeId) (x y : Operand) (ho : op.op = .store ty x y)
    (p v : Value) (hx : a.eval x = p) (hy : a.eval y = v) (hr : (Instr.storeAt ty p v).run P w = .ok () w')
    (h : wpList P ops Q rest (a.put op.dst undef) w') : wpList P ops Q (op :: rest) a w :=
  wpList_plain hgd fun _ hK => by
    unfold Oper.wp execOp
    simp only [ho, hx, hy, Sem.run_bind, Sem.run_pure, Result.andThen_ok, hr]
    exact hK _ _ h
end Go.Proofs.Ytdgjdbpbnipjcaa
