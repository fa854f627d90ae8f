/- Plain: bytes of runes, digits, as the program reckons them. No program is named here. -/
import Derived.Test.YtffamppgnooaeaaDoorRuPlain4
import GoSem.Core.Utf8
import Derived.Laws.BitsAllLaws
namespace Go.Proofs.YtffamppgnooaeaaDoor
open Go.Lib
set_option linter.unusedVariables false
set_option linter.unusedSimpArgs false

theorem valid_ok {r : Nat} (h : r < 55296 ∨ 57343 < r) (h2 : r < 1114112) : Utf8.valid (r : Int) = true := by
  unfold Utf8.valid
  rw [Bool.or_eq_true, Bool.and_eq_true, Bool.and_eq_true, decide_eq_true_eq, decide_eq_true_eq, decide_eq_true_eq, decide_eq_true_eq]
  omega
theorem encode_of {c r : Nat} {z : Int} (hc : (if Utf8.valid z = true then z.toNat else Utf8.runeError) = r) : Utf8.encode z = if r < 0x80 then ⟨#[UInt8.ofNat r]⟩ else if r < 0x800 then ⟨#[UInt8.ofNat (0xC0 + r / 64), UInt8.ofNat (0x80 + r % 64)]⟩ else if r < 0x10000 then ⟨#[UInt8.ofNat (0xE0 + r / 4096), UInt8.ofNat (0x80 + r / 64 % 64), UInt8.ofNat (0x80 + r % 64)]⟩
  else ⟨#[UInt8.ofNat (0xF0 + r / 262144), UInt8.ofNat (0x80 + r / 4096 % 64), UInt8.ofNat (0x80 + r / 64 % 64), UInt8.ofNat (0x80 + r % 64)]⟩ := by
  subst hc; rfl
theorem list1 (a : UInt8) : (ByteArray.mk #[a]).data.toList = [a] := rfl
theorem list2 (a b : UInt8) : (ByteArray.mk #[a, b]).data.toList = [a, b] := rfl
theorem list3 (a b c : UInt8) : (ByteArray.mk #[a, b, c]).data.toList = [a, b, c] := rfl
theorem list4 (a b c d : UInt8) : (ByteArray.mk #[a, b, c, d]).data.toList = [a, b, c, d] := rfl
theorem encode_uB {r : Nat} (h : r < 55296 ∨ 57343 < r) (h2 : r < 1114112) : (Utf8.encode (r : Int)).data.toList = uB r := by
  rw [encode_of (c := r) (r := r) (by rw [if_pos (valid_ok h h2)]; exact Int.toNat_natCast r)]
  unfold uB
  split
  · rw [list1]
  · split
    · rw [list2]
    · split
      · rw [list3]
      · rw [list4]
/-- a digit as strconv has it: c | 0x20 -/
def lowN (c : Nat) : Nat := c ||| 32
set_option maxRecDepth 100000 in
theorem hex_digit : ∀ c : Fin 256, hexV c.val = if 48 ≤ c.val ∧ c.val ≤ 57 then some (c.val - 48) else if 97 ≤ lowN c.val ∧ lowN c.val ≤ 122 ∧ lowN c.val - 97 + 10 < 16 then some (lowN c.val - 97 + 10) else none := by decide
end Go.Proofs.YtffamppgnooaeaaDoor
