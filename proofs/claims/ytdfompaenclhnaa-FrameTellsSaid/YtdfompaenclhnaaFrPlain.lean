/- Plain laws of frames: no program is named here. -/
import Derived.Test.YtdfompaenclhnaaBase
namespace Go.Proofs.Ytdfompaenclhnaa
open Go.RowKit

def sizeN (n : Int) : Int := if n < 1 ∨ 524288 < n then 0 else n + 4

/-- big-endian -/
def beN (l : List UInt8) : Nat := l.foldl (fun n c => n * 256 + c.toNat) 0
theorem beN_snoc (l : List UInt8) (b : UInt8) : beN (l ++ [b]) = beN l * 256 + b.toNat := by simp [beN]
theorem be_aux (l : List UInt8) : ∀ a : Nat, l.foldl (fun n c => n * 256 + c.toNat) a < (a + 1) * 256 ^ l.length := by
  induction l with
  | nil => intro a; simp
  | cons b l ih =>
    intro a
    have hb := b.toNat_lt
    refine Nat.lt_of_lt_of_le (ih _) ?_
    rw [List.length_cons, Nat.pow_succ, Nat.mul_comm (256 ^ l.length), ← Nat.mul_assoc]
    exact Nat.mul_le_mul_right _ (by show a * 256 + b.toNat + 1 ≤ _; omega)
theorem beN_lt (l : List UInt8) : beN l < 256 ^ l.length := by have := be_aux l 0; simpa [beN] using this
theorem take_snoc {α : Type} (l : List α) (k : Nat) (h : k < l.length) : l.take (k + 1) = l.take k ++ [l[k]] := by
  rw [List.take_succ_eq_append_getElem h]

theorem or_i64 (a b : Nat) (ha : a < 9223372036854775808) (h : a % 256 = 0) (hb : b < 256) : bits .or .i64 (a : Int) (b : Int) = ((a + b : Nat) : Int) := by
  have e1 : ∀ x : Nat, x < 9223372036854775808 → (BitVec.ofInt 64 (x : Int)).toNat = x := fun x hx => by
    rw [BitVec.ofInt_natCast, BitVec.toNat_ofNat]; exact Nat.mod_eq_of_lt (by omega)
  have e2 : a ||| b = a + b := nat_join8 a b h hb
  show IntKind.i64.wrap ((BitVec.ofInt 64 (a : Int) ||| BitVec.ofInt 64 (b : Int)).toNat : Int) = _
  rw [BitVec.toNat_or, e1 a ha, e1 b (by omega), IntKind.wrap_i64, e2]
  omega

theorem or_i64' (a b : Nat) (ha : a < 36028797018963968) (hb : b < 256) : bits .or .i64 ((a : Int) * 256) (b : Int) = (a : Int) * 256 + (b : Int) := by
  have := or_i64 (a * 256) b (by omega) (by omega) hb
  rw [show ((a * 256 : Nat) : Int) = (a : Int) * 256 from by omega] at this
  rw [this]
  omega

/-- the first frame's load -/
def firstF (l : List UInt8) : Option (List UInt8) :=
  if l.length < 4 then none else
  if beN (l.take 4) < 1 ∨ 524288 < beN (l.take 4) ∨ l.length < beN (l.take 4) + 4 then none else
  some ((l.drop 4).take (beN (l.take 4)))
end Go.Proofs.Ytdfompaenclhnaa
