/- The count of bits and the least bit, as math/bits computes them on words of 64 bits.
   No condition. -/
import Derived.Test.YtligejpfbcdpmaaDoorM2
import Derived.Lib.TrailingZeros
namespace Go.Proofs.YtligejpfbcdpmaaDoor

/-- What math/bits.OnesCount64 has before the last mask. -/
def pa (x : BitVec 64) : BitVec 64 := ((x >>> (1 : Int).toNat) &&& 6148914691236517205#64) + (x &&& 6148914691236517205#64)
def pb (x : BitVec 64) : BitVec 64 := ((x >>> (2 : Int).toNat) &&& 3689348814741910323#64) + (x &&& 3689348814741910323#64)
def pc (x : BitVec 64) : BitVec 64 := ((x >>> (4 : Int).toNat) + x) &&& 1085102592571150095#64
def pd (x : BitVec 64) : BitVec 64 := x + (x >>> (8 : Int).toNat)
def pe (x : BitVec 64) : BitVec 64 := x + (x >>> (16 : Int).toNat)
def pf (x : BitVec 64) : BitVec 64 := x + (x >>> (32 : Int).toNat)
theorem pa_nat (x : BitVec 64) : (pa x).toNat = s1 x.toNat 32 := by
  unfold pa s1
  rw [BitVec.toNat_add, BitVec.toNat_and, BitVec.toNat_and, BitVec.toNat_ushiftRight, Nat.shiftRight_eq_div_pow]
  rw [show (6148914691236517205#64).toNat = 6148914691236517205 from rfl, show mask 4 1 32 = 6148914691236517205 from by decide, show 2 ^ (1 : Int).toNat = 2 from rfl]
  have h1 := Nat.and_le_right (n := x.toNat / 2) (m := 6148914691236517205)
  have h2 := Nat.and_le_right (n := x.toNat) (m := 6148914691236517205)
  exact Nat.mod_eq_of_lt (by omega)
theorem pb_nat (x : BitVec 64) : (pb x).toNat = s2 x.toNat 16 ∧ s2 x.toNat 16 ≤ 7378697629483820646 := by
  unfold pb s2
  rw [BitVec.toNat_add, BitVec.toNat_and, BitVec.toNat_and, BitVec.toNat_ushiftRight, Nat.shiftRight_eq_div_pow]
  rw [show (3689348814741910323#64).toNat = 3689348814741910323 from rfl, show mask 16 3 16 = 3689348814741910323 from by decide, show 2 ^ (2 : Int).toNat = 4 from rfl]
  have h1 := Nat.and_le_right (n := x.toNat / 4) (m := 3689348814741910323)
  have h2 := Nat.and_le_right (n := x.toNat) (m := 3689348814741910323)
  exact ⟨Nat.mod_eq_of_lt (by omega), by omega⟩
theorem pc_nat (x : BitVec 64) (h : x.toNat ≤ 7378697629483820646) : (pc x).toNat = s3 x.toNat 8 := by
  unfold pc s3
  rw [BitVec.toNat_and, BitVec.toNat_add, BitVec.toNat_ushiftRight, Nat.shiftRight_eq_div_pow]
  rw [show (1085102592571150095#64).toNat = 1085102592571150095 from rfl, show mask 256 15 8 = 1085102592571150095 from by decide, show 2 ^ (4 : Int).toNat = 16 from rfl, Nat.mod_eq_of_lt (by omega)]
theorem pd_nat (x : BitVec 64) (h : x.toNat ≤ 1000000000000000000) : (pd x).toNat = x.toNat + x.toNat / 256 := by
  unfold pd
  rw [BitVec.toNat_add, BitVec.toNat_ushiftRight, Nat.shiftRight_eq_div_pow, show 2 ^ (8 : Int).toNat = 256 from rfl]
  exact Nat.mod_eq_of_lt (by omega)
theorem pe_nat (x : BitVec 64) (h : x.toNat ≤ 2000000000000000000) : (pe x).toNat = x.toNat + x.toNat / 65536 := by
  unfold pe
  rw [BitVec.toNat_add, BitVec.toNat_ushiftRight, Nat.shiftRight_eq_div_pow, show 2 ^ (16 : Int).toNat = 65536 from rfl]
  exact Nat.mod_eq_of_lt (by omega)
theorem pf_nat (x : BitVec 64) (h : x.toNat ≤ 4000000000000000000) : (pf x).toNat = x.toNat + x.toNat / 4294967296 := by
  unfold pf
  rw [BitVec.toNat_add, BitVec.toNat_ushiftRight, Nat.shiftRight_eq_div_pow, show 2 ^ (32 : Int).toNat = 4294967296 from rfl]
  exact Nat.mod_eq_of_lt (by omega)
theorem popB (x : BitVec 64) : (pf (pe (pd (pc (pb (pa x)))))).toNat ≤ 8000000000000000000 ∧ (pf (pe (pd (pc (pb (pa x)))))).toNat % 128 = (nums x).length := by
  obtain ⟨b1, b2⟩ := pb_nat (pa x)
  have c1 := pc_nat (pb (pa x)) (by rw [b1]; exact b2)
  rw [b1, pa_nat] at c1
  have hs := s2_small 16 (s1 x.toNat 32)
  obtain ⟨_, h2⟩ := s3_sum 8 (s2 (s1 x.toNat 32) 16) hs
  obtain ⟨_, h3⟩ := s4_sum _ h2
  rw [← c1] at h3
  have d1 := pd_nat (pc (pb (pa x))) (by omega)
  have e1 := pe_nat (pd (pc (pb (pa x)))) (by omega)
  have f1 := pf_nat (pe (pd (pc (pb (pa x))))) (by omega)
  refine ⟨by omega, ?_⟩
  rw [← pop_nums]
  unfold pop s4
  rw [← c1, f1, e1, d1]

/-- The place in the table that math/bits.TrailingZeros64 looks at. -/
def tzi (x : BitVec 64) : BitVec 64 := ((x &&& -x) * 285870213051353865#64) >>> (58 : Int).toNat
theorem tzi_at (x : BitVec 64) (h : x ≠ 0#64) : (tzi x).toNat < 64 ∧ Lib.deBruijn64tab.getD (tzi x).toNat 0 = Lib.ctz 64 x.toNat ∧ Lib.ctz 64 x.toNat < 64 := by
  have hx : x.toNat ≠ 0 := fun e => h (BitVec.eq_of_toNat_eq (by simpa using e))
  obtain ⟨h1, h2⟩ := Lib.lowest_bit 64 x.toNat hx x.isLt
  have e : (tzi x).toNat = 2 ^ Lib.ctz 64 x.toNat * 285870213051353865 % 18446744073709551616 / 288230376151711744 := by
    unfold tzi
    rw [BitVec.toNat_ushiftRight, Nat.shiftRight_eq_div_pow, BitVec.toNat_mul, BitVec.toNat_and, BitVec.toNat_neg, show (2 ^ 64 - x.toNat) % 2 ^ 64 = 2 ^ 64 - x.toNat from Nat.mod_eq_of_lt (by have := x.isLt; omega), h1]
    rfl
  obtain ⟨h3, h4⟩ := Lib.deBruijn64_at _ h2
  rw [← e] at h3 h4
  exact ⟨h3, h4, h2⟩
end Go.Proofs.YtligejpfbcdpmaaDoor
