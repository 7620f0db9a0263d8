/- What TopSetted compares: sets beside rows of flags.
   No condition. -/
import Derived.Test.YtligejpfbcdpmaaDoorM4
import Derived.Test.YtligejpfbcdpmaaDoorS2
namespace Go.Proofs.YtligejpfbcdpmaaDoor
open Go.Proofs.YtligejpfbcdpmaaDoor.Dv

def natI (l : List Nat) : List Int := l.map Int.ofNat
theorem natI_back (l : List Nat) : (natI l).map Int.toNat = l := by
  unfold natI
  rw [List.map_map]
  exact List.map_id _
theorem natI_inj {l m : List Nat} : natI l = natI m ↔ l = m := ⟨fun h => by rw [← natI_back l, h, natI_back], fun h => by rw [h]⟩
theorem flc_congr {f g : Nat → Bool} (h : ∀ i, i < 64 → f i = g i) : flc f = flc g := by
  unfold flc
  congr 1
  apply List.map_congr_left
  intro i hi
  rw [h i (List.mem_range.1 hi)]
theorem mem_numsF {f : Nat → Bool} {i : Nat} : i ∈ numsF f ↔ i < 64 ∧ f i = true := by
  unfold numsF
  rw [List.mem_filter, List.mem_range]
theorem of_flags (K : List Int) : ofS K = setF (fun i => decide ((i : Int) ∈ K)) := eq_setF fun i hi => ofS_bit K i hi
theorem of_numbers (g : Nat → Bool) : ofS (natI (numsF g)) = setF g := eq_setF fun i hi => by
  rw [ofS_bit _ i hi, Bool.eq_iff_iff, decide_eq_true_iff]
  unfold natI
  rw [List.mem_map]
  constructor
  · rintro ⟨a, ha, e⟩
    have : a = i := Int.ofNat.inj e
    subst this
    exact (mem_numsF.1 ha).2
  · intro h
    exact ⟨i, mem_numsF.2 ⟨hi, h⟩, rfl⟩
theorem union_flags (f g : Nat → Bool) : unS [setF f, setF g, setF f] = setF (fun i => f i || g i) := eq_setF fun i hi => by
  simp only [unS, List.foldl_cons, List.foldl_nil, BitVec.getLsbD_or, setF_bit, BitVec.getLsbD_zero, decide_eq_true hi]
  cases f i <;> cases g i <;> rfl
theorem meet_flags (f g : Nat → Bool) : setF f &&& setF g = setF (fun i => f i && g i) := eq_setF fun i hi => by
  simp only [BitVec.getLsbD_and, setF_bit, decide_eq_true hi, Bool.true_and]
theorem minus_flags (f g : Nat → Bool) : setF f &&& ~~~setF g = setF (fun i => f i && !g i) := eq_setF fun i hi => by
  simp only [BitVec.getLsbD_and, BitVec.getLsbD_not, setF_bit, decide_eq_true hi, Bool.true_and]
def wi (f g : Nat → Bool) (s : Nat) : Bool := (List.range s).all fun i => g i || !f i
theorem wi_succ (f g : Nat → Bool) (s : Nat) : wi f g (s + 1) = (wi f g s && (g s || !f s)) := by
  unfold wi
  rw [List.range_succ, List.all_append]; simp
theorem setF_zero {f : Nat → Bool} : setF f = 0#64 ↔ ∀ i, i < 64 → f i = false := by
  constructor
  · intro h i hi
    have h1 := setF_bit f i
    rw [h, BitVec.getLsbD_zero, decide_eq_true hi, Bool.true_and] at h1
    exact h1.symm
  · intro h
    apply BitVec.eq_of_getLsbD_eq
    intro i hi
    rw [setF_bit, h i hi, BitVec.getLsbD_zero, Bool.and_false]
theorem within_flags (f g : Nat → Bool) : decide (setF f &&& ~~~setF g = 0#64) = wi f g 64 := by
  rw [minus_flags, Bool.eq_iff_iff, decide_eq_true_iff, setF_zero]
  unfold wi
  rw [List.all_eq_true]
  constructor
  · intro h i hi
    have := h i (List.mem_range.1 hi)
    cases hf : f i <;> cases hg : g i <;> simp_all
  · intro h i hi
    have := h i (List.mem_range.2 hi)
    cases hf : f i <;> cases hg : g i <;> simp_all
/-- One number more, one number less: its flag turned; nothing, of a number that is none. -/
theorem with_flags (f : Nat → Bool) {k : Int} (h0 : 0 ≤ k) (h1 : k < 64) : setF f ||| bit k = setF (put f k.toNat true) := eq_setF fun i hi => by
  rw [BitVec.getLsbD_or, setF_bit, bit_bit k i hi, decide_eq_true hi, Bool.true_and]
  unfold put
  by_cases e : i = k.toNat
  · rw [if_pos e, decide_eq_true (by omega), Bool.or_true]
  · rw [if_neg e, decide_eq_false (by omega), Bool.or_false]
theorem without_flags (f : Nat → Bool) {k : Int} (h0 : 0 ≤ k) (h1 : k < 64) : setF f &&& ~~~bit k = setF (put f k.toNat false) := eq_setF fun i hi => by
  rw [BitVec.getLsbD_and, BitVec.getLsbD_not, setF_bit, bit_bit k i hi, decide_eq_true hi, Bool.true_and, Bool.true_and]
  unfold put
  by_cases e : i = k.toNat
  · rw [if_pos e, decide_eq_true (by omega), Bool.not_true, Bool.and_false]
  · rw [if_neg e, decide_eq_false (by omega), Bool.not_false, Bool.and_true]
theorem has_flags (f : Nat → Bool) {k : Int} (h0 : 0 ≤ k) (h1 : k < 64) : decide (setF f &&& bit k ≠ 0#64) = f k.toNat := by
  have e : ∀ i, i < 64 → (setF f &&& bit k).getLsbD i = (f i && decide (k = i)) := fun i hi => by
    rw [BitVec.getLsbD_and, setF_bit, bit_bit k i hi, decide_eq_true hi, Bool.true_and]
  cases hf : f k.toNat with
  | true =>
    refine decide_eq_true fun h => ?_
    have := e k.toNat (by omega)
    rw [h, BitVec.getLsbD_zero, hf, decide_eq_true (by omega)] at this
    cases this
  | false =>
    refine decide_eq_false fun h => h ?_
    apply BitVec.eq_of_getLsbD_eq
    intro i hi
    rw [e i hi, BitVec.getLsbD_zero]
    by_cases ek : k = i
    · rw [show f i = false by rw [ek] at hf; exact hf]; rfl
    · rw [decide_eq_false ek, Bool.and_false]
theorem bit_out {k : Int} (h : ¬ (0 ≤ k ∧ k < 64)) : bit k = 0#64 := by
  unfold bit
  rw [if_neg (by omega)]
theorem with_out (s : BitVec 64) {k : Int} (h : ¬ (0 ≤ k ∧ k < 64)) : s ||| bit k = s := by rw [bit_out h]; exact BitVec.or_zero
theorem without_out (s : BitVec 64) {k : Int} (h : ¬ (0 ≤ k ∧ k < 64)) : s &&& ~~~bit k = s := by
  rw [bit_out h]
  apply BitVec.eq_of_getLsbD_eq
  intro i hi
  rw [BitVec.getLsbD_and, BitVec.getLsbD_not, BitVec.getLsbD_zero, decide_eq_true hi]
  simp
theorem has_out (s : BitVec 64) {k : Int} (h : ¬ (0 ≤ k ∧ k < 64)) : decide (s &&& bit k ≠ 0#64) = false := by
  rw [bit_out h]
  exact decide_eq_false fun h => h BitVec.and_zero
theorem full_flags (k : Int) {m : Nat} (hm : (m : Int) = min (max k 0) 64) : fullS k = setF (fun i => decide (i < m)) := eq_setF fun i hi => by
  rw [fullS_bit k i hi]
  exact decide_eq_decide.2 (by omega)
theorem nums_nil {f : Nat → Bool} : setF f = 0#64 ↔ numsF f = [] := by
  rw [setF_zero]
  constructor
  · intro h
    rw [List.eq_nil_iff_forall_not_mem]
    intro i hi
    have := mem_numsF.1 hi
    rw [h i this.1] at this
    cases this.2
  · intro h i hi
    cases hf : f i with
    | false => rfl
    | true =>
      have := mem_numsF.2 ⟨hi, hf⟩
      rw [h] at this
      cases this
theorem least_flags {f : Nat → Bool} (h : setF f ≠ 0#64) : (numsF f)[0]? = some (Lib.ctz 64 (setF f).toNat) := by
  rw [← nums_setF, (nums_step _ h).2]; rfl
/-- The order of two rows of flags, as one goes over them. -/
def ordF (f g : Nat → Bool) : Nat → Int
  | 0 => 0
  | s + 1 => if f s && !g s then 1 else if g s && !f s then -1 else ordF f g s
def lowF (f : Nat → Bool) : Nat → Nat
  | 0 => 0
  | s + 1 => lowF f s + 2 ^ s * (f s).toNat
theorem lowF_lt (f : Nat → Bool) : ∀ s, lowF f s < 2 ^ s
  | 0 => by simp [lowF]
  | s + 1 => by
    have := lowF_lt f s
    unfold lowF
    rw [Nat.pow_succ]
    cases f s <;> simp <;> omega
theorem lowF_mod (f : Nat → Bool) : ∀ s, s ≤ 64 → lowF f s = (setF f).toNat % 2 ^ s
  | 0, _ => by simp [lowF, Nat.mod_one]
  | s + 1, h => by
    have e : (setF f).toNat.testBit s = f s := by
      have := setF_bit f s
      rw [decide_eq_true (by omega), Bool.true_and] at this
      exact this
    have e2 : (setF f).toNat / 2 ^ s % 2 = (f s).toNat := by
      rw [← e, Nat.testBit_eq_decide_div_mod_eq]
      rcases Nat.mod_two_eq_zero_or_one ((setF f).toNat / 2 ^ s) with h | h <;> rw [h] <;> rfl
    rw [Nat.pow_succ, Nat.mod_mul, ← lowF_mod f s (by omega), e2]
    rfl
theorem setF_low (f : Nat → Bool) : (setF f).toNat = lowF f 64 := by
  rw [lowF_mod f 64 (Nat.le_refl _)]
  exact (Nat.mod_eq_of_lt (setF f).isLt).symm
theorem ordF_cmp (f g : Nat → Bool) : ∀ s, ordF f g s = if lowF f s < lowF g s then -1 else if lowF g s < lowF f s then 1 else 0
  | 0 => by simp [ordF, lowF]
  | s + 1 => by
    have h1 := lowF_lt f s
    have h2 := lowF_lt g s
    have ih := ordF_cmp f g s
    unfold ordF lowF
    cases f s <;> cases g s <;> simp only [Bool.not_true, Bool.not_false, Bool.and_true, Bool.and_false, if_true, if_false, Bool.toNat_true, Bool.toNat_false, Nat.mul_one, Nat.mul_zero, Nat.add_zero, Bool.false_eq_true]
    · exact ih
    · rw [if_pos (by omega)]
    · rw [if_neg (by omega), if_pos (by omega)]
    · have a1 : (lowF f s + 2 ^ s < lowF g s + 2 ^ s) = (lowF f s < lowF g s) := by rw [Nat.add_lt_add_iff_right]
      have a2 : (lowF g s + 2 ^ s < lowF f s + 2 ^ s) = (lowF g s < lowF f s) := by rw [Nat.add_lt_add_iff_right]
      simp only [a1, a2]
      exact ih
theorem cmp_flags (f g : Nat → Bool) : cmpS (setF f) (setF g) = ordF f g 64 := by
  unfold cmpS
  rw [ordF_cmp, setF_low, setF_low]
theorem cmp_flags' (f g : Nat → Bool) : cmpS (setF g) (setF f) = -ordF f g 64 := by
  unfold cmpS
  rw [ordF_cmp, setF_low, setF_low]
  by_cases e1 : lowF f 64 < lowF g 64
  · have e2 : ¬ lowF g 64 < lowF f 64 := by omega
    simp [e1, e2]
  · by_cases e2 : lowF g 64 < lowF f 64
    · simp [e1, e2]
    · simp [e1, e2]
/-- A row of flags of which one more is known. -/
theorem flc_next {P : Nat → Bool} {s : Nat} {v : Bool} (h : v = P s) : (flc (fun i => decide (i < s) && P i)).setIfInBounds (0 + (s : Int).toNat * 1) (.bool v) = flc (fun i => decide (i < s + 1) && P i) := by
  rw [Nat.zero_add, Nat.mul_one, Int.toNat_natCast, flc_set]
  apply flc_congr
  intro i hi
  unfold put
  by_cases e : i = s
  · subst e
    rw [if_pos rfl, h, decide_eq_true (by omega), Bool.true_and]
  · rw [if_neg e]
    show (decide (i < s) && P i) = _
    by_cases e2 : i < s
    · rw [decide_eq_true e2, decide_eq_true (by omega)]
    · rw [decide_eq_false e2, decide_eq_false (by omega)]
theorem flc_none : Array.replicate 64 (Value.bool false) = flc (fun i => decide ((i : Int) ∈ ([] : List Int))) := by
  rw [flc_zero]
  exact flc_congr fun i _ => by simp
theorem flc_noneN : Array.replicate 64 (Value.bool false) = flc (fun i => decide (i ∈ ([] : List Nat))) := by
  rw [flc_zero]
  exact flc_congr fun i _ => by simp
theorem flc_in {K : List Int} {s : Nat} {k : Int} (h0 : 0 ≤ k) (h1 : k < 64) (hk : K[s]? = some k) : (flc (fun i => decide ((i : Int) ∈ K.take s))).setIfInBounds (0 + k.toNat * 1) (.bool true) = flc (fun i => decide ((i : Int) ∈ K.take (s + 1))) := by
  rw [flc_put _ _ h0 h1]
  apply flc_congr
  intro i hi
  unfold put
  rw [take_snoc hk]
  by_cases e : i = k.toNat
  · rw [if_pos e, eq_comm]
    exact decide_eq_true (List.mem_append.2 (.inr (by rw [List.mem_singleton]; omega)))
  · rw [if_neg e]
    refine decide_eq_decide.2 ?_
    rw [List.mem_append, List.mem_singleton]
    exact ⟨.inl, fun h => h.elim id (fun h => absurd h (by omega))⟩
theorem flc_out {K : List Int} {s : Nat} {k : Int} (h0 : ¬ (0 ≤ k ∧ k < 64)) (hk : K[s]? = some k) : flc (fun i => decide ((i : Int) ∈ K.take s)) = flc (fun i => decide ((i : Int) ∈ K.take (s + 1))) := by
  apply flc_congr
  intro i hi
  rw [take_snoc hk]
  refine decide_eq_decide.2 ?_
  rw [List.mem_append, List.mem_singleton]
  exact ⟨.inl, fun h => h.elim id (fun h => absurd h (by omega))⟩
theorem flc_mem {M : List Nat} {s : Nat} {x : Nat} (hk : M[s]? = some (x % 64)) : (flc (fun i => decide (i ∈ M.take s))).setIfInBounds (0 + ((x : Int) % 64).toNat * 1) (.bool true) = flc (fun i => decide (i ∈ M.take (s + 1))) := by
  rw [flc_put _ _ (by omega) (by omega), show ((x : Int) % 64).toNat = x % 64 by omega]
  apply flc_congr
  intro i hi
  unfold put
  rw [take_snoc hk]
  by_cases e : i = x % 64
  · rw [if_pos e, eq_comm]
    exact decide_eq_true (List.mem_append.2 (.inr (by rw [List.mem_singleton]; exact e)))
  · rw [if_neg e]
    refine decide_eq_decide.2 ?_
    rw [List.mem_append, List.mem_singleton]
    exact ⟨.inl, fun h => h.elim id (fun h => absurd h e)⟩
theorem flc_start (P : Nat → Bool) : Array.replicate 64 (Value.bool false) = flc (fun i => decide (i < 0) && P i) := by
  rw [flc_zero]
  exact flc_congr fun i _ => by simp
theorem flc_full (P : Nat → Bool) : flc (fun i => decide (i < 64) && P i) = flc P := flc_congr fun i hi => by simp [hi]
theorem flc_first : Array.replicate 64 (Value.bool false) = flc (fun i => decide (i < 0)) := by
  rw [flc_zero]
  exact flc_congr fun i _ => by simp
theorem flc_lt {s : Nat} : (flc (fun i => decide (i < s))).setIfInBounds (0 + (s : Int).toNat * 1) (.bool true) = flc (fun i => decide (i < s + 1)) := by
  rw [Nat.zero_add, Nat.mul_one, Int.toNat_natCast, flc_set]
  apply flc_congr
  intro i hi
  unfold put
  by_cases e : i = s
  · rw [if_pos e, eq_comm]; exact decide_eq_true (by omega)
  · rw [if_neg e]; exact decide_eq_decide.2 (by omega)
theorem flc_cell (f : Nat → Bool) : (flc f).all (·.oneCell') = true := by
  rw [Array.all_eq_true_iff_forall_mem]
  intro v hv
  simp [flc] at hv
  obtain ⟨i, _, rfl⟩ := hv
  rfl
theorem natI_map (l : List Nat) : (natI l).map (Value.int .i64) = l.map (fun k : Nat => Value.int .i64 k) := by
  unfold natI
  rw [List.map_map]; rfl
theorem is_len (f : Nat → Bool) : decide (setF f ≠ 0#64) = decide ((0 : Int) < ((numsF f).length : Int)) := by
  refine decide_eq_decide.2 ?_
  rw [ne_eq, nums_nil, ← List.length_eq_zero_iff]
  omega
theorem ord_le (f g : Nat → Bool) (s : Nat) : -1 ≤ ordF f g s ∧ ordF f g s ≤ 1 := by
  rw [ordF_cmp]
  split
  · omega
  · split <;> omega
theorem full3 : fullS 3 = 7#64 := by decide
end Go.Proofs.YtligejpfbcdpmaaDoor
