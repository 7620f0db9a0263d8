/- Sets of 64 bits and rows of 64 flags.
   No condition. -/
import Derived.Test.YtligejpfbcdpmaaDoorS1
import Derived.Test.YtligejpfbcdpmaaDoorM2
namespace Go.Proofs.YtligejpfbcdpmaaDoor
open Go.Proofs.YtligejpfbcdpmaaDoor.Dv

/-- The cells of a row of flags. -/
def flc (f : Nat → Bool) : Array Value := ((List.range 64).map fun i => Value.bool (f i)).toArray
theorem flc_size (f : Nat → Bool) : (flc f).size = 64 := by simp [flc]
theorem flc_get (f : Nat → Bool) {i : Nat} (h : i < 64) : (flc f)[i]? = some (.bool (f i)) := by
  simp [flc, h]
theorem flc_at (f : Nat → Bool) {i : Int} (h0 : 0 ≤ i) (h1 : i < 64) : (flc f)[0 + i.toNat * 1]? = some (.bool (f i.toNat)) := by
  rw [Nat.zero_add, Nat.mul_one]
  exact flc_get f (by omega)
theorem flc_zero : Array.replicate 64 (Value.bool false) = flc (fun _ => false) := by
  apply Array.ext
  · rw [flc_size]; simp
  · intro i h1 h2
    simp [flc]
def put (f : Nat → Bool) (k : Nat) (b : Bool) : Nat → Bool := fun i => if i = k then b else f i
theorem flc_set (f : Nat → Bool) (k : Nat) (b : Bool) : (flc f).setIfInBounds k (.bool b) = flc (put f k b) := by
  apply Array.ext
  · simp [flc_size]
  · intro i h1 h2
    rw [Array.getElem_setIfInBounds (by rw [flc_size, ← flc_size (put f k b)]; exact h2)]
    by_cases e : k = i
    · subst e; simp [flc, put]
    · have e' : ¬ i = k := fun h => e h.symm
      simp [flc, put, e, e']
theorem flc_put (f : Nat → Bool) {i : Int} (b : Bool) (h0 : 0 ≤ i) (h1 : i < 64) : (flc f).setIfInBounds (0 + i.toNat * 1) (.bool b) = flc (put f i.toNat b) := by
  rw [Nat.zero_add, Nat.mul_one]; exact flc_set f _ b

/-- The number of a row of flags, as its method computes it. -/
def hbB (f : Nat → Bool) : Nat → BitVec 64
  | 0 => 0#64
  | m + 1 => if f (63 - m) then hbB f m * 2#64 + 1#64 else hbB f m * 2#64
def setF (f : Nat → Bool) : BitVec 64 := hbB f 64
def hv (f : Nat → Bool) : Nat → Nat
  | 0 => 0
  | m + 1 => 2 * hv f m + (if f (63 - m) then 1 else 0)
theorem hv_lt (f : Nat → Bool) : ∀ m, hv f m < 2 ^ m
  | 0 => by simp [hv]
  | m + 1 => by
    have := hv_lt f m
    rw [Nat.pow_succ]
    unfold hv
    split <;> omega
theorem hbB_nat (f : Nat → Bool) : ∀ m, m ≤ 64 → (hbB f m).toNat = hv f m
  | 0, _ => rfl
  | m + 1, h => by
    have h1 := hbB_nat f m (by omega)
    have h2 := hv_lt f (m + 1)
    have h3 : 2 ^ (m + 1) ≤ 2 ^ 64 := Nat.pow_le_pow_right (by omega) h
    unfold hv at h2
    unfold hbB hv
    split
    · rename_i hf
      rw [if_pos hf] at h2
      rw [BitVec.toNat_add, BitVec.toNat_mul, h1, show (2#64).toNat = 2 from rfl, show (1#64).toNat = 1 from rfl]
      omega
    · rename_i hf
      rw [if_neg hf] at h2
      rw [BitVec.toNat_mul, h1, show (2#64).toNat = 2 from rfl]
      omega
theorem hv_bit (f : Nat → Bool) : ∀ m, m ≤ 64 → ∀ i, (hv f m).testBit i = (decide (i < m) && f (64 - m + i))
  | 0, _, i => by simp [hv]
  | m + 1, h, 0 => by
    rw [Nat.testBit_zero]
    unfold hv
    rw [show 64 - (m + 1) + 0 = 63 - m by omega]
    cases hf : f (63 - m) <;> simp <;> omega
  | m + 1, h, i + 1 => by
    rw [Nat.testBit_succ]
    unfold hv
    have e : (2 * hv f m + if f (63 - m) = true then 1 else 0) / 2 = hv f m := by split <;> omega
    rw [e, hv_bit f m (by omega) i, show 64 - (m + 1) + (i + 1) = 64 - m + i by omega]
    congr 1
    exact decide_eq_decide.2 (by omega)
theorem setF_bit (f : Nat → Bool) (i : Nat) : (setF f).getLsbD i = (decide (i < 64) && f i) := by
  show (setF f).toNat.testBit i = _
  unfold setF
  rw [hbB_nat f 64 (Nat.le_refl _), hv_bit f 64 (Nat.le_refl _) i]
  simp
theorem eq_setF {s : BitVec 64} {f : Nat → Bool} (h : ∀ i, i < 64 → s.getLsbD i = f i) : s = setF f := by
  apply BitVec.eq_of_getLsbD_eq
  intro i hi
  rw [h i hi, setF_bit]; simp [hi]
/-- The numbers of a row of flags, rising. -/
def numsF (f : Nat → Bool) : List Nat := (List.range 64).filter f
theorem nums_setF (f : Nat → Bool) : nums (setF f) = numsF f := by
  unfold nums numsF
  apply List.filter_congr
  intro i hi
  rw [setF_bit]; simp [List.mem_range.1 hi]
theorem bit_bit (k : Int) (i : Nat) (hi : i < 64) : (bit k).getLsbD i = decide (k = i) := by
  unfold bit
  split
  · rename_i h
    rw [BitVec.getLsbD_shiftLeft]
    by_cases e : k = i
    · subst e; simp [hi]
    · simp [hi, e]
      intro h1
      omega
  · rename_i h
    rw [BitVec.getLsbD_zero, eq_comm, decide_eq_false_iff_not]
    omega
theorem foldl_bit (l : List Int) (i : Nat) (hi : i < 64) : ∀ s : BitVec 64, (l.foldl (fun s k => s ||| bit k) s).getLsbD i = (s.getLsbD i || decide ((i : Int) ∈ l)) := by
  induction l with
  | nil => intro s; simp
  | cons k l ih =>
    intro s
    rw [List.foldl_cons, ih, BitVec.getLsbD_or, bit_bit k i hi, Bool.or_assoc]
    congr 1
    rw [Bool.eq_iff_iff, Bool.or_eq_true, decide_eq_true_iff, decide_eq_true_iff, decide_eq_true_iff, List.mem_cons]
    exact or_congr ⟨fun h => h.symm, fun h => h.symm⟩ Iff.rfl
theorem ofS_bit (l : List Int) (i : Nat) (hi : i < 64) : (ofS l).getLsbD i = decide ((i : Int) ∈ l) := by
  unfold ofS
  rw [foldl_bit l i hi]; simp
theorem fullS_bit (n : Int) (i : Nat) (hi : i < 64) : (fullS n).getLsbD i = decide ((i : Int) < n) := by
  unfold fullS
  split
  · rw [BitVec.getLsbD_zero, eq_comm, decide_eq_false_iff_not]; omega
  · split
    · rw [show (18446744073709551615#64 : BitVec 64) = BitVec.allOnes 64 from rfl, BitVec.getLsbD_allOnes, decide_eq_true hi, eq_comm]
      exact decide_eq_true (by omega)
    · rename_i h1 h2
      obtain ⟨m, rfl⟩ : ∃ m : Nat, n = m := ⟨n.toNat, by omega⟩
      have hm : m ≤ 63 := by omega
      have e : ((1#64 <<< (m : Int).toNat) - 1#64).toNat = 2 ^ m - 1 := by
        have h4 : (1#64 <<< (m : Int).toNat).toNat = 2 ^ m := by
          rw [BitVec.toNat_shiftLeft, Nat.shiftLeft_eq, Int.toNat_natCast, show (1#64).toNat = 1 from rfl, Nat.one_mul]
          exact Nat.mod_eq_of_lt (Nat.pow_lt_pow_right (by omega) (by omega))
        have h5 : 2 ^ m ≤ 2 ^ 63 := Nat.pow_le_pow_right (by omega) hm
        have h6 : 0 < 2 ^ m := Nat.two_pow_pos m
        rw [BitVec.toNat_sub, h4, show (1#64).toNat = 1 from rfl]
        generalize 2 ^ m = B at h5 h6 ⊢
        omega
      show ((1#64 <<< (m : Int).toNat) - 1#64).toNat.testBit i = _
      rw [e, Nat.testBit_two_pow_sub_one]
      exact decide_eq_decide.2 (by omega)
end Go.Proofs.YtligejpfbcdpmaaDoor
