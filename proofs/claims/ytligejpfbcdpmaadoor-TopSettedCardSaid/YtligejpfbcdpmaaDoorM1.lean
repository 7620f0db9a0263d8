/- Words of 64 bits, in plain numbers: how many bits (as math/bits counts them), the least one, all of them in their order.
   No condition. -/
import Derived.Lib.TrailingZeros
namespace Go.Proofs.YtligejpfbcdpmaaDoor

/-- '&' goes digit by digit. -/
theorem and_digit (w q a m c : Nat) (ha : a < 2 ^ w) (hc : c < 2 ^ w) : (2 ^ w * q + a) &&& (2 ^ w * m + c) = 2 ^ w * (q &&& m) + (a &&& c) := by
  have hac : a &&& c < 2 ^ w := Nat.lt_of_le_of_lt Nat.and_le_left ha
  apply Nat.eq_of_testBit_eq
  intro i
  rw [Nat.testBit_and, Nat.testBit_two_pow_mul_add q ha, Nat.testBit_two_pow_mul_add m hc, Nat.testBit_two_pow_mul_add _ hac]
  split <;> rw [Nat.testBit_and]
/-- The sum of the digits. -/
def dsum (B : Nat) : Nat → Nat → Nat
  | 0, _ => 0
  | n + 1, x => x % B + dsum B n (x / B)
theorem dsum_succ (B n x : Nat) : dsum B (n + 1) x = x % B + dsum B n (x / B) := rfl
def mask (B c : Nat) : Nat → Nat
  | 0 => 0
  | n + 1 => B * mask B c n + c
def s1 (x n : Nat) : Nat := ((x / 2) &&& mask 4 1 n) + (x &&& mask 4 1 n)
def s2 (y n : Nat) : Nat := ((y / 4) &&& mask 16 3 n) + (y &&& mask 16 3 n)
def s3 (y n : Nat) : Nat := (y / 16 + y) &&& mask 256 15 n
theorem and1 (a : Nat) : a &&& 1 = a % 2 := Nat.and_two_pow_sub_one_eq_mod a 1
theorem and3 (a : Nat) : a &&& 3 = a % 4 := Nat.and_two_pow_sub_one_eq_mod a 2
theorem and15 (a : Nat) : a &&& 15 = a % 16 := Nat.and_two_pow_sub_one_eq_mod a 4
theorem s1_succ (x n : Nat) : s1 x (n + 1) = 4 * s1 (x / 4) n + ((x / 2) % 2 + x % 2) := by
  have h1 := and_digit 2 (x / 4) (x % 4) (mask 4 1 n) 1 (by omega) (by omega)
  have h2 := and_digit 2 ((x / 4) / 2) (x / 2 % 4) (mask 4 1 n) 1 (by omega) (by omega)
  rw [show 2 ^ 2 * (x / 4) + x % 4 = x by omega, and1] at h1
  rw [show 2 ^ 2 * ((x / 4) / 2) + x / 2 % 4 = x / 2 by omega, and1] at h2
  unfold s1
  rw [show mask 4 1 (n + 1) = 2 ^ 2 * mask 4 1 n + 1 from rfl, h1, h2]
  omega
theorem s2_succ (y n : Nat) : s2 y (n + 1) = 16 * s2 (y / 16) n + ((y / 4) % 4 + y % 4) := by
  have h1 := and_digit 4 (y / 16) (y % 16) (mask 16 3 n) 3 (by omega) (by omega)
  have h2 := and_digit 4 ((y / 16) / 4) (y / 4 % 16) (mask 16 3 n) 3 (by omega) (by omega)
  rw [show 2 ^ 4 * (y / 16) + y % 16 = y by omega, and3] at h1
  rw [show 2 ^ 4 * ((y / 16) / 4) + y / 4 % 16 = y / 4 by omega, and3] at h2
  unfold s2
  rw [show mask 16 3 (n + 1) = 2 ^ 4 * mask 16 3 n + 3 from rfl, h1, h2]
  omega
theorem s3_succ (y n : Nat) (h0 : y % 16 ≤ 6) (h1 : y / 16 % 16 ≤ 6) (h2 : y / 256 % 16 ≤ 6) : s3 y (n + 1) = 256 * s3 (y / 256) n + (y % 16 + y / 16 % 16) := by
  have e : y / 16 + y = 2 ^ 8 * (y / 256 / 16 + y / 256) + ((y % 16 + y / 16 % 16) + 16 * (y / 16 % 16 + y / 256 % 16)) := by omega
  unfold s3
  rw [e, show mask 256 15 (n + 1) = 2 ^ 8 * mask 256 15 n + 15 from rfl, and_digit 8 _ _ _ 15 (by omega) (by omega), and15]
  omega
theorem s1_sum : ∀ (n x : Nat), dsum 4 n (s1 x n) = dsum 2 (2 * n) x
  | 0, x => rfl
  | n + 1, x => by
    rw [show 2 * (n + 1) = 2 * n + 1 + 1 by omega, dsum_succ, dsum_succ, dsum_succ, s1_succ]
    have e1 : (4 * s1 (x / 4) n + (x / 2 % 2 + x % 2)) % 4 = x / 2 % 2 + x % 2 := by omega
    have e2 : (4 * s1 (x / 4) n + (x / 2 % 2 + x % 2)) / 4 = s1 (x / 4) n := by omega
    rw [e1, e2, s1_sum n, show x / 2 / 2 = x / 4 by omega]
    omega
theorem s2_sum : ∀ (n y : Nat), dsum 16 n (s2 y n) = dsum 4 (2 * n) y
  | 0, y => rfl
  | n + 1, y => by
    rw [show 2 * (n + 1) = 2 * n + 1 + 1 by omega, dsum_succ, dsum_succ, dsum_succ, s2_succ]
    have e1 : (16 * s2 (y / 16) n + (y / 4 % 4 + y % 4)) % 16 = y / 4 % 4 + y % 4 := by omega
    have e2 : (16 * s2 (y / 16) n + (y / 4 % 4 + y % 4)) / 16 = s2 (y / 16) n := by omega
    rw [e1, e2, s2_sum n, show y / 4 / 4 = y / 16 by omega]
    omega
/-- All digits at most b. -/
def small (B b : Nat) : Nat → Nat → Prop
  | 0, x => x = 0
  | n + 1, x => x % B ≤ b ∧ small B b n (x / B)
theorem s2_small : ∀ (n y : Nat), small 16 6 n (s2 y n)
  | 0, y => by simp [small, s2, mask]
  | n + 1, y => by
    unfold small
    rw [s2_succ]
    have e1 : (16 * s2 (y / 16) n + (y / 4 % 4 + y % 4)) % 16 = y / 4 % 4 + y % 4 := by omega
    have e2 : (16 * s2 (y / 16) n + (y / 4 % 4 + y % 4)) / 16 = s2 (y / 16) n := by omega
    rw [e1, e2]
    exact ⟨by omega, s2_small n _⟩
theorem small_head : ∀ (n y : Nat), small 16 6 n y → y % 16 ≤ 6
  | 0, y, h => by have : y = 0 := h; omega
  | n + 1, y, h => h.1
theorem s3_sum : ∀ (n y : Nat), small 16 6 (2 * n) y → dsum 256 n (s3 y n) = dsum 16 (2 * n) y ∧ small 256 12 n (s3 y n)
  | 0, y, h => by
    have : y = 0 := h
    subst this
    exact ⟨rfl, by simp [small, s3, mask]⟩
  | n + 1, y, h => by
    rw [show 2 * (n + 1) = 2 * n + 1 + 1 by omega] at h ⊢
    obtain ⟨h1, h2, h3⟩ := h
    rw [show y / 16 / 16 = y / 256 by omega] at h3
    have h4 := small_head _ _ h3
    obtain ⟨i1, i2⟩ := s3_sum n (y / 256) h3
    have e := s3_succ y n h1 h2 h4
    have e1 : (256 * s3 (y / 256) n + (y % 16 + y / 16 % 16)) % 256 = y % 16 + y / 16 % 16 := by omega
    have e2 : (256 * s3 (y / 256) n + (y % 16 + y / 16 % 16)) / 256 = s3 (y / 256) n := by omega
    unfold small
    rw [dsum_succ, dsum_succ, dsum_succ, e, e1, e2]
    refine ⟨?_, by omega, i2⟩
    rw [i1, show y / 16 / 16 = y / 256 by omega]
    omega
/-- How math/bits sums the bytes up. -/
def s4 (x : Nat) : Nat := (x + x / 256 + (x + x / 256) / 65536 + (x + x / 256 + (x + x / 256) / 65536) / 4294967296) % 128
theorem div_step (B q r n : Nat) (h : n = B * q + r) (hr : r < B) : n / B = q := by
  rw [h, Nat.mul_add_div (by omega), Nat.div_eq_of_lt hr, Nat.add_zero]
theorem s4_core (x q1 q2 q3 q4 q5 q6 q7 d0 d1 d2 d3 d4 d5 d6 d7 : Nat) (e0 : x = 256 * q1 + d0) (e1 : q1 = 256 * q2 + d1) (e2 : q2 = 256 * q3 + d2) (e3 : q3 = 256 * q4 + d3) (e4 : q4 = 256 * q5 + d4) (e5 : q5 = 256 * q6 + d5) (e6 : q6 = 256 * q7 + d6) (e7 : q7 = d7)
    (h0 : d0 ≤ 12) (h1 : d1 ≤ 12) (h2 : d2 ≤ 12) (h3 : d3 ≤ 12) (h4 : d4 ≤ 12) (h5 : d5 ≤ 12) (h6 : d6 ≤ 12) (h7 : d7 ≤ 12) :
    s4 x = d0 + d1 + d2 + d3 + d4 + d5 + d6 + d7 := by
  have a1 : x / 256 = q1 := div_step 256 q1 d0 x e0 (by omega)
  have a2 : (x + q1) / 65536 = q2 + q3 := div_step 65536 (q2 + q3) ((256 * d1 + d0) + (256 * d2 + d1)) _ (by clear e3 e4 e5 e6 e7; omega) (by omega)
  have b1 : x = 4294967296 * q4 + (16777216 * d3 + 65536 * d2 + 256 * d1 + d0) := by clear a1 a2 e4 e5 e6 e7; omega
  have b2 : q1 = 4294967296 * q5 + (16777216 * d4 + 65536 * d3 + 256 * d2 + d1) := by clear a1 a2 b1 e0 e5 e6 e7; omega
  have b3 : q2 = 4294967296 * q6 + (16777216 * d5 + 65536 * d4 + 256 * d3 + d2) := by clear a1 a2 b1 b2 e0 e1 e6 e7; omega
  have b4 : q3 = 4294967296 * q7 + (16777216 * d6 + 65536 * d5 + 256 * d4 + d3) := by clear a1 a2 b1 b2 b3 e0 e1 e2 e7; omega
  have a3 : (x + q1 + (q2 + q3)) / 4294967296 = q4 + q5 + (q6 + q7) := div_step 4294967296 (q4 + q5 + (q6 + q7)) ((16777216 * d3 + 65536 * d2 + 256 * d1 + d0) + (16777216 * d4 + 65536 * d3 + 256 * d2 + d1) + ((16777216 * d5 + 65536 * d4 + 256 * d3 + d2) + (16777216 * d6 + 65536 * d5 + 256 * d4 + d3))) _ (by rw [b1, b2, b3, b4]; clear a1 a2 b1 b2 b3 b4 e0 e1 e2 e3 e4 e5 e6 e7 h0 h1 h2 h3 h4 h5 h6 h7; omega) (by clear a1 a2 b1 b2 b3 b4 e0 e1 e2 e3 e4 e5 e6 e7; omega)
  have a4 : x + q1 + (q2 + q3) + (q4 + q5 + (q6 + q7)) = 128 * (2 * (q1 + q2 + q3 + q4 + q5 + q6 + q7)) + (d0 + d1 + d2 + d3 + d4 + d5 + d6 + d7) := by clear a1 a2 a3 b1 b2 b3 b4 h0 h1 h2 h3 h4 h5 h6 h7; omega
  unfold s4
  rw [a1, a2, a3, a4, Nat.mul_add_mod]
  exact Nat.mod_eq_of_lt (by clear a1 a2 a3 a4 b1 b2 b3 b4 e0 e1 e2 e3 e4 e5 e6 e7; omega)
theorem s4_sum (x : Nat) (h : small 256 12 8 x) : s4 x = dsum 256 8 x ∧ x ≤ 868082074056920076 := by
  obtain ⟨h0, h1, h2, h3, h4, h5, h6, h7, h8⟩ := h
  have h8 : x / 256 / 256 / 256 / 256 / 256 / 256 / 256 / 256 = 0 := h8
  have e := s4_core x (x / 256) (x / 256 / 256) (x / 256 / 256 / 256) (x / 256 / 256 / 256 / 256) (x / 256 / 256 / 256 / 256 / 256) (x / 256 / 256 / 256 / 256 / 256 / 256) (x / 256 / 256 / 256 / 256 / 256 / 256 / 256)
    _ _ _ _ _ _ _ _ (Nat.div_add_mod x 256).symm (Nat.div_add_mod _ 256).symm (Nat.div_add_mod _ 256).symm (Nat.div_add_mod _ 256).symm (Nat.div_add_mod _ 256).symm (Nat.div_add_mod _ 256).symm (Nat.div_add_mod _ 256).symm (by omega : _ = x / 256 / 256 / 256 / 256 / 256 / 256 / 256 % 256) h0 h1 h2 h3 h4 h5 h6 h7
  refine ⟨?_, by clear e; omega⟩
  rw [e]
  simp only [dsum]
  clear e
  omega
/-- How many bits. -/
def pop (x : Nat) : Nat := s4 (s3 (s2 (s1 x 32) 16) 8)
theorem pop_sum (x : Nat) : pop x = dsum 2 64 x := by
  have h := s2_small 16 (s1 x 32)
  obtain ⟨e3, h3⟩ := s3_sum 8 _ h
  unfold pop
  rw [(s4_sum _ h3).1, e3, s2_sum 16, s1_sum 32]
end Go.Proofs.YtligejpfbcdpmaaDoor
