/- Areas as sets of cells. -/
import Derived.Test.YtpaielaniekdbaaPB21
namespace Go.Proofs.Ytpaielaniekdbaa
open Go.RowKit
/-! #### how many bits -/
theorem u64_wrap (n : Nat) : IntKind.u64.wrap (n : Int) = ((n % 18446744073709551616 : Nat) : Int) := by
  unfold IntKind.wrap; simp [IntKind.signed, IntKind.bits]
theorem u64_and (a b : Nat) : bitsV .and .u64 (a : Int) (b : Int) = (((a % 18446744073709551616) &&& (b % 18446744073709551616) : Nat) : Int) := by
  have e : bitsV .and .u64 a b = IntKind.u64.wrap (((BitVec.ofInt 64 (a : Int)) &&& (BitVec.ofInt 64 (b : Int))).toNat : Int) := rfl
  rw [e, u64_wrap, BitVec.toNat_and, BitVec.ofInt_natCast, BitVec.ofInt_natCast, BitVec.toNat_ofNat, BitVec.toNat_ofNat]
  congr 1
  apply Nat.mod_eq_of_lt
  exact Nat.lt_of_le_of_lt Nat.and_le_left (Nat.mod_lt _ (by decide))
theorem u64_shr (a k : Nat) (h : k ≤ 64) : shrW .u64 (a : Int) (k : Int) = ((a >>> k : Nat) : Int) := by
  have e : shrW .u64 a k = (a : Int).fdiv (2 ^ (min ((k : Int).toNat) 64)) := rfl
  have e2 : min ((k : Int).toNat) 64 = k := by simp; omega
  rw [e, e2, Nat.shiftRight_eq_div_pow]
  have e3 : (2 : Int) ^ k = ((2 ^ k : Nat) : Int) := by simp
  rw [e3, Int.fdiv_eq_ediv_of_nonneg _ (Int.natCast_nonneg _)]; exact (Int.natCast_ediv a (2 ^ k)).symm
def mN (n : Nat) : Nat := Nat.mod n 18446744073709551616
def onesF (x : Nat) : Nat :=
  let a := mN (Nat.add (Nat.land (mN (Nat.shiftRight x 1)) 6148914691236517205) (Nat.land (mN x) 6148914691236517205))
  let b := mN (Nat.add (Nat.land (mN (Nat.shiftRight a 2)) 3689348814741910323) (Nat.land (mN a) 3689348814741910323))
  let c := Nat.land (mN (mN (Nat.add (Nat.shiftRight b 4) b))) 1085102592571150095
  let d := mN (Nat.add c (Nat.shiftRight c 8))
  let e := mN (Nat.add d (Nat.shiftRight d 16))
  mN (Nat.add e (Nat.shiftRight e 32))
theorem onesW_F (x : Nat) (h : onesF x < 65536) : onesW (x : Int) = ((onesF x &&& 127 : Nat) : Int) := by
  have key : onesW (x : Int) = bitsV .and .i64 (IntKind.i64.wrap ((onesF x : Nat) : Int)) ((127 : Nat) : Int) := by
    unfold onesW onesF mN
    simp only []
    have k1 : (1 : Int) = ((1 : Nat) : Int) := rfl
    have k2 : (2 : Int) = ((2 : Nat) : Int) := rfl
    have k4 : (4 : Int) = ((4 : Nat) : Int) := rfl
    have k8 : (8 : Int) = ((8 : Nat) : Int) := rfl
    have k16 : (16 : Int) = ((16 : Nat) : Int) := rfl
    have k32 : (32 : Int) = ((32 : Nat) : Int) := rfl
    have m1 : (6148914691236517205 : Int) = ((6148914691236517205 : Nat) : Int) := rfl
    have m2 : (3689348814741910323 : Int) = ((3689348814741910323 : Nat) : Int) := rfl
    have m3 : (1085102592571150095 : Int) = ((1085102592571150095 : Nat) : Int) := rfl
    rw [k1, k2, k4, k8, k16, k32, m1, m2, m3]
    rw [u64_shr _ 1 (by decide), u64_and, u64_and, ← Int.natCast_add, u64_wrap]
    rw [u64_shr _ 2 (by decide), u64_and, u64_and, ← Int.natCast_add, u64_wrap]
    rw [u64_shr _ 4 (by decide), ← Int.natCast_add, u64_wrap, u64_and]
    rw [u64_shr _ 8 (by decide), ← Int.natCast_add, u64_wrap]
    rw [u64_shr _ 16 (by decide), ← Int.natCast_add, u64_wrap]
    rw [u64_shr _ 32 (by decide), ← Int.natCast_add, u64_wrap]
    rfl
  rw [key, w64 (by omega), andN h (by decide)]
theorem ones_all : (List.range 256).all (fun h => (List.range 256).all fun l => (Nat.blt (onesF (Nat.add (Nat.mul 256 h) l)) 65536 && Nat.beq (Nat.land (onesF (Nat.add (Nat.mul 256 h) l)) 127) (Nat.add (Nat.land (onesF (Nat.div (Nat.add (Nat.mul 256 h) l) 2)) 127) (Nat.mod l 2)))) = true := by kernel_rfl
theorem ones_step {n : Nat} (h : n < 65536) : onesF n < 65536 ∧ onesF n &&& 127 = (onesF (n / 2) &&& 127) + n % 2 := by
  have h1 := List.all_eq_true.1 ones_all (n / 256) (by simp; omega)
  have h2 := List.all_eq_true.1 h1 (n % 256) (by simp; omega)
  have e : Nat.add (Nat.mul 256 (n / 256)) (n % 256) = n := Nat.div_add_mod n 256
  rw [e] at h2
  simp only [Bool.and_eq_true] at h2
  have h3 := Nat.eq_of_beq_eq_true h2.2
  have h4 : onesF n < 65536 := Nat.le_of_ble_eq_true h2.1
  refine ⟨h4, ?_⟩
  have e2 : Nat.mod (n % 256) 2 = n % 2 := by show n % 256 % 2 = n % 2; omega
  rw [e2] at h3
  exact h3
end Go.Proofs.Ytpaielaniekdbaa
