/- The numbers of a set of 64 bits, rising; the least one and the rest.
   No condition. -/
import Derived.Test.YtligejpfbcdpmaaDoorM1
namespace Go.Proofs.YtligejpfbcdpmaaDoor

def nums (s : BitVec 64) : List Nat := (List.range 64).filter s.getLsbD
theorem dsum_bits : ∀ (n x : Nat), dsum 2 n x = ((List.range n).filter x.testBit).length
  | 0, x => rfl
  | n + 1, x => by
    rw [dsum_succ, dsum_bits n, List.range_succ_eq_map, List.filter_cons, List.filter_map]
    have e : x.testBit ∘ Nat.succ = (x / 2).testBit := by
      funext i
      show x.testBit (i + 1) = _
      rw [Nat.testBit_succ]
    rw [e]
    by_cases h : x % 2 = 1
    · have h2 : x.testBit 0 = true := by simp [h]
      rw [if_pos h2, List.length_cons, List.length_map, h]; omega
    · have h2 : x.testBit 0 = false := by simp; omega
      rw [if_neg (by rw [h2]; simp), List.length_map]; omega
theorem pop_nums (s : BitVec 64) : pop s.toNat = (nums s).length := by
  rw [pop_sum, dsum_bits]; rfl
theorem nums_zero : nums 0#64 = [] := by
  unfold nums
  rw [List.filter_eq_nil_iff]
  intro a _
  simp
theorem filter_none {n : Nat} {p : Nat → Bool} (h : ∀ i, i < n → p i = false) : (List.range n).filter p = [] := by
  rw [List.filter_eq_nil_iff]
  intro a ha
  rw [h a (List.mem_range.1 ha)]; simp
theorem filter_least {p p' : Nat → Bool} {k : Nat} (h1 : ∀ i, i < k → p i = false) (h2 : ∀ i, i ≤ k → p' i = false) (h3 : p k = true) (h4 : ∀ i, k < i → p i = p' i) : ∀ n, k < n → (List.range n).filter p = k :: (List.range n).filter p'
  | 0, h => by omega
  | n + 1, h => by
    rw [List.range_succ, List.filter_append, List.filter_append]
    by_cases e : k = n
    · subst e
      rw [filter_none h1, filter_none (fun i hi => h2 i (by omega)), List.filter_cons, List.filter_cons, if_pos h3, if_neg (by rw [h2 k (Nat.le_refl _)]; simp)]
      rfl
    · have hk : k < n := by omega
      rw [filter_least h1 h2 h3 h4 n hk, List.filter_cons, List.filter_cons, h4 n hk]
      rfl
theorem nums_step (s : BitVec 64) (h : s ≠ 0#64) : Lib.ctz 64 s.toNat < 64 ∧ nums s = Lib.ctz 64 s.toNat :: nums (s &&& (s - 1#64)) := by
  have hx0 : 0 < s.toNat := by
    apply Nat.pos_of_ne_zero
    intro e
    exact h (BitVec.eq_of_toNat_eq (by simpa using e))
  obtain ⟨m, hm, hk⟩ := Lib.ctzFrom_spec 64 s.toNat hx0 s.isLt
  have e : Lib.ctz 64 s.toNat = Lib.ctzFrom 64 s.toNat := by simp [Lib.ctz, Nat.pos_iff_ne_zero.1 hx0]
  rw [e]
  refine ⟨hk, ?_⟩
  generalize Lib.ctzFrom 64 s.toNat = k at hm hk
  have hs : ∀ i, s.getLsbD i = (2 ^ k * (2 * m + 1)).testBit i := fun i => by
    show s.toNat.testBit i = _
    rw [hm]
  have hp : 0 < 2 ^ k := Nat.two_pow_pos k
  have hsub : (s - 1#64).toNat = 2 ^ k * (2 * m) + (2 ^ k - 1) := by
    have hlt := s.isLt
    have key : s.toNat = 2 ^ k * (2 * m) + 2 ^ k := by rw [hm, Nat.mul_add, Nat.mul_one]
    rw [BitVec.toNat_sub, show (1#64).toNat = 1 from rfl]
    have aux : ∀ (A B N : Nat), N = A + B → 0 < B → N < 2 ^ 64 → (2 ^ 64 - 1 + N) % 2 ^ 64 = A + (B - 1) := by
      intro A B N h1 h2 h3
      omega
    exact aux _ _ _ key hp hlt
  have hand : (s &&& (s - 1#64)).toNat = 2 ^ k * (2 * m) := by
    rw [BitVec.toNat_and, hsub, hm]
    have := and_digit k (2 * m + 1) 0 (2 * m) (2 ^ k - 1) hp (by omega)
    rw [Nat.add_zero, Nat.zero_and, Nat.add_zero] at this
    rw [this, Nat.add_zero]
    congr 1
    apply Nat.eq_of_testBit_eq
    intro i
    rw [Nat.testBit_and]
    cases i with
    | zero => simp
    | succ i =>
      rw [Nat.testBit_succ, Nat.testBit_succ, show (2 * m + 1) / 2 = m by omega, show 2 * m / 2 = m by omega, Bool.and_self]
  have hs' : ∀ i, (s &&& (s - 1#64)).getLsbD i = (2 ^ k * (2 * m)).testBit i := fun i => by
    show (s &&& (s - 1#64)).toNat.testBit i = _
    rw [hand]
  have tb : ∀ q i, (2 ^ k * q).testBit i = (decide (k ≤ i) && q.testBit (i - k)) := fun q i => by
    rw [Nat.mul_comm, Nat.testBit_mul_two_pow]
  unfold nums
  refine filter_least (fun i hi => ?_) (fun i hi => ?_) ?_ (fun i hi => ?_) 64 hk
  · rw [hs, tb, decide_eq_false (by omega)]; rfl
  · rw [hs', tb]
    by_cases e : i = k
    · subst e; simp
    · rw [decide_eq_false (by omega)]; rfl
  · rw [hs, tb]; simp
  · rw [hs, hs', tb, tb]
    obtain ⟨d, rfl⟩ : ∃ d, i = k + (d + 1) := ⟨i - k - 1, by omega⟩
    rw [show k + (d + 1) - k = d + 1 by omega, Nat.testBit_succ, Nat.testBit_succ]
    congr 2
    omega
theorem nums_lt {s : BitVec 64} {k : Nat} (h : k ∈ nums s) : k < 64 := List.mem_range.1 (List.mem_filter.1 h).1
theorem nums_len (s : BitVec 64) : (nums s).length ≤ 64 := by
  have := List.length_filter_le s.getLsbD (List.range 64)
  simpa [nums] using this
end Go.Proofs.YtligejpfbcdpmaaDoor
