/- The operations of the walk, one law each, over whatever program: what a step leaves in its slot, what it does to the call's own memory.
   No condition. -/
import Derived.Test.YtligejpfbcdpmaaDoorK1
import Derived.IntWalk
import Derived.Laws.Strings
namespace Go.Proofs.YtligejpfbcdpmaaDoor.Dv
set_option linter.unusedVariables false
set_option linter.unusedSimpArgs false
open Go.RowKit

/-! ### types, by closed facts -/
def Sz (P : Program) (t : TypeId) (n : Nat) : Prop := (P.info? t).map (·.size) = some n
def Zr (P : Program) (t : TypeId) (z : Value) : Prop := (P.info? t).bind (·.zero) = some z
def By (P : Program) (t : TypeId) (n : Nat) : Prop := (P.info? t).map (·.bytes) = some n
def aggD : TypeDesc → Bool
  | .struct _ | .array _ _ => true
  | _ => false
/-- A type whose variables are one cell. -/
def Sc (P : Program) (t : TypeId) : Prop := (P.underlying t).map aggD = some false
/-- A struct or an array of n cells. -/
def Ag (P : Program) (t : TypeId) (n : Nat) : Prop := (P.underlying t).map aggD = some true ∧ Sz P t n
/-- Field f of struct type s: where it begins, its type, its cells. -/
def fdOf (P : Program) (s : TypeId) (f : Nat) : Option (Nat × TypeId × Nat) := match P.underlying s with
  | some (.struct fs) => match fs[f]? with
    | some fd => (P.info? fd.type).map fun i => (fd.offset, fd.type, i.size)
    | none => none
  | _ => none
section
variable {P : Program} {t : TypeId} {n : Nat} (w : World)
theorem run_sz (h : Sz P t n) : (sizeOf t).run P w = .ok n w := by
  obtain ⟨i, hi, rfl⟩ := Option.map_eq_some_iff.1 h
  simp [sizeOf, typeInfo, hi]
theorem run_zr {z : Value} (h : Zr P t z) : (zeroValue t).run P w = .ok z w := by
  obtain ⟨i, hi, hz⟩ := Option.bind_eq_some_iff.1 h
  simp [zeroValue, typeInfo, hi, hz]
theorem run_by (h : By P t n) : ∃ i : TypeInfo, i.bytes = n ∧ (typeInfo t).run P w = .ok i w := by
  obtain ⟨i, hi, hn⟩ := Option.map_eq_some_iff.1 h
  exact ⟨i, hn, by simp [typeInfo, hi]⟩
theorem run_isAgg {b : Bool} (h : (P.underlying t).map aggD = some b) : (isAgg t).run P w = .ok b w := by
  obtain ⟨d, hd, rfl⟩ := Option.map_eq_some_iff.1 h
  unfold isAgg
  rw [Sem.run_bind, run_underlying hd w]
  cases d <;> rfl
theorem addr_add (b o n : Nat) : (⟨b, o, none⟩ : Addr).add n = ⟨b, o + n, none⟩ := by
  unfold Addr.add
  split
  · rename_i h; rw [h]; rfl
  · rfl
end

section
variable {E : Env} {H : Heap} {ρ : Regs}

/-! ### values -/
theorem int_beq (m n : Int) : (m == n) = decide (m = n) := by rw [Bool.eq_iff_iff]; simp
theorem Yl.move {x : Operand} {v : Value} (h : ev ρ x = some v) : Yl E H ρ (.move x) v := fun ms a w d t pos after g ha hw => by
  show (Result.ok (Next.value (a.eval x)) w : Result Next) = _
  rw [ha.eval h]
theorem Yl.assign {x : Operand} {v : Value} (h : ev ρ x = some v) : Yl E H ρ (.assign x) v := fun ms a w d t pos after g ha hw => by
  show (Result.ok (Next.value (a.eval x)) w : Result Next) = _
  rw [ha.eval h]
theorem Yl.pick_t {c x y : Operand} {v : Value} (hc : ev ρ c = some (.bool true)) (h : ev ρ x = some v) : Yl E H ρ (.pick c x y) v := fun ms a w d t pos after g ha hw => by
  simp [execOp, ha.eval hc, ha.eval h, asBool]
theorem Yl.pick_f {c x y : Operand} {v : Value} (hc : ev ρ c = some (.bool false)) (h : ev ρ y = some v) : Yl E H ρ (.pick c x y) v := fun ms a w d t pos after g ha hw => by
  simp [execOp, ha.eval hc, ha.eval h, asBool]

theorem Yl.pick_b {c x y : Operand} {b : Bool} {v u : Value} (hc : ev ρ c = some (.bool b)) (h : ev ρ x = some v) (h' : ev ρ y = some u) : Yl E H ρ (.pick c x y) (if b then v else u) := fun ms a w d t pos after g ha hw => by
  cases b <;> simp [execOp, ha.eval hc, ha.eval h, ha.eval h', asBool]

section ints
variable {t t' : TypeId} {x y : Operand} {k : IntKind} {m n : Int} (hx : ev ρ x = some (.int k m)) (hy : ev ρ y = some (.int k n))
include hx hy
theorem Yl.lss : Yl E H ρ (.binOp .lss t x y t') (.bool (decide (m < n))) := fun ms a w d t pos after g ha hw => by
  simp [execOp, ha.eval hx, ha.eval hy, eqGuard, binOp, Op.intCmp]
theorem Yl.leq : Yl E H ρ (.binOp .leq t x y t') (.bool (decide (m ≤ n))) := fun ms a w d t pos after g ha hw => by
  simp [execOp, ha.eval hx, ha.eval hy, eqGuard, binOp, Op.intCmp]
theorem Yl.gtr : Yl E H ρ (.binOp .gtr t x y t') (.bool (decide (n < m))) := fun ms a w d t pos after g ha hw => by
  simp [execOp, ha.eval hx, ha.eval hy, eqGuard, binOp, Op.intCmp]
theorem Yl.geq : Yl E H ρ (.binOp .geq t x y t') (.bool (decide (n ≤ m))) := fun ms a w d t pos after g ha hw => by
  simp [execOp, ha.eval hx, ha.eval hy, eqGuard, binOp, Op.intCmp]
theorem Yl.eql : Yl E H ρ (.binOp .eql t x y t') (.bool (decide (m = n))) := fun ms a w d t pos after g ha hw => by
  simp [execOp, ha.eval hx, ha.eval hy, eqGuard, binOp, Op.intCmp, int_beq]
theorem Yl.neq : Yl E H ρ (.binOp .neq t x y t') (.bool (decide (m ≠ n))) := fun ms a w d t pos after g ha hw => by
  simp [execOp, ha.eval hx, ha.eval hy, eqGuard, binOp, Op.intCmp, bne, int_beq]
theorem Yl.addw : Yl E H ρ (.binOp .add t x y t') (.int k (k.wrap (m + n))) := fun ms a w d t pos after g ha hw => by
  simp [execOp, ha.eval hx, ha.eval hy, eqGuard, binOp, Op.intArith]
theorem Yl.subw : Yl E H ρ (.binOp .sub t x y t') (.int k (k.wrap (m - n))) := fun ms a w d t pos after g ha hw => by
  simp [execOp, ha.eval hx, ha.eval hy, eqGuard, binOp, Op.intArith]
theorem Yl.mulw : Yl E H ρ (.binOp .mul t x y t') (.int k (k.wrap (m * n))) := fun ms a w d t pos after g ha hw => by
  simp [execOp, ha.eval hx, ha.eval hy, eqGuard, binOp, Op.intArith]
theorem Yl.remw (h1 : n ≠ 0) : Yl E H ρ (.binOp .rem t x y t') (.int k (m.tmod n)) := fun ms a w d t pos after g ha hw => by
  simp [execOp, ha.eval hx, ha.eval hy, eqGuard, binOp, Op.intDiv, h1]
theorem Yl.quow (h1 : n ≠ 0) : Yl E H ρ (.binOp .quo t x y t') (.int k (k.wrap (m.tdiv n))) := fun ms a w d t pos after g ha hw => by
  simp [execOp, ha.eval hx, ha.eval hy, eqGuard, binOp, Op.intDiv, h1]
theorem Yl.rem (h0 : 0 ≤ m) (h1 : 0 < n) : Yl E H ρ (.binOp .rem t x y t') (.int k (m % n)) := by
  have := Yl.remw (E := E) (H := H) (t := t) (t' := t') hx hy (by omega)
  rwa [Int.tmod_eq_emod_of_nonneg h0] at this
end ints
section i64
variable {t t' : TypeId} {x y : Operand} {m n : Int} (hx : ev ρ x = some (.int .i64 m)) (hy : ev ρ y = some (.int .i64 n))
include hx hy
theorem Yl.add (h1 : -9223372036854775808 ≤ m + n) (h2 : m + n ≤ 9223372036854775807) : Yl E H ρ (.binOp .add t x y t') (.int .i64 (m + n)) := by
  have := Yl.addw (E := E) (H := H) (t := t) (t' := t') hx hy
  rwa [IntWalk.i64_in _ ⟨h1, h2⟩] at this
theorem Yl.sub (h1 : -9223372036854775808 ≤ m - n) (h2 : m - n ≤ 9223372036854775807) : Yl E H ρ (.binOp .sub t x y t') (.int .i64 (m - n)) := by
  have := Yl.subw (E := E) (H := H) (t := t) (t' := t') hx hy
  rwa [IntWalk.i64_in _ ⟨h1, h2⟩] at this
theorem Yl.mul (h1 : -9223372036854775808 ≤ m * n) (h2 : m * n ≤ 9223372036854775807) : Yl E H ρ (.binOp .mul t x y t') (.int .i64 (m * n)) := by
  have := Yl.mulw (E := E) (H := H) (t := t) (t' := t') hx hy
  rwa [IntWalk.i64_in _ ⟨h1, h2⟩] at this
theorem Yl.quo (h0 : 0 ≤ m) (h1 : 0 < n) (h2 : m ≤ 9223372036854775807) : Yl E H ρ (.binOp .quo t x y t') (.int .i64 (m / n)) := by
  have := Yl.quow (E := E) (H := H) (t := t) (t' := t') hx hy (by omega)
  have e : 0 ≤ m / n := Int.ediv_nonneg h0 (by omega)
  have e2 : m / n ≤ m := Int.ediv_le_self n h0
  rwa [Int.tdiv_eq_ediv_of_nonneg h0, IntWalk.i64_in _ ⟨by omega, by omega⟩] at this
end i64

/-! words of 64 bits -/
def u64 (s : BitVec 64) : Value := .int .u64 s.toNat
theorem u64_wrap (n : Int) : IntKind.u64.wrap n = n % 18446744073709551616 := by
  simp [IntKind.wrap, IntKind.signed, IntKind.bits]
theorem u64_nat (s : BitVec 64) : IntKind.u64.wrap (s.toNat : Int) = s.toNat := by
  rw [u64_wrap]; have := s.isLt; omega
theorem u64_ofInt (s : BitVec 64) : BitVec.ofInt 64 (s.toNat : Int) = s := by
  apply BitVec.eq_of_toNat_eq
  simp [BitVec.toNat_ofInt]
section u64
variable {t t' : TypeId} {x y : Operand} {r s : BitVec 64} (hx : ev ρ x = some (u64 r)) (hy : ev ρ y = some (u64 s))
include hx hy
theorem Yl.uand : Yl E H ρ (.binOp .and t x y t') (u64 (r &&& s)) := fun ms a w d t pos after g ha hw => by
  have h := u64_nat (r &&& s)
  simp only [execOp, ha.eval hx, ha.eval hy, u64, eqGuard, binOp, Op.intBits]
  simp only [IntKind.bits, u64_ofInt]
  simp [h, -BitVec.toNat_and, -BitVec.toNat_or, -BitVec.toNat_xor, -BitVec.toNat_not]
  exact h
theorem Yl.uor : Yl E H ρ (.binOp .or t x y t') (u64 (r ||| s)) := fun ms a w d t pos after g ha hw => by
  have h := u64_nat (r ||| s)
  simp only [execOp, ha.eval hx, ha.eval hy, u64, eqGuard, binOp, Op.intBits]
  simp only [IntKind.bits, u64_ofInt]
  simp [h, -BitVec.toNat_and, -BitVec.toNat_or, -BitVec.toNat_xor, -BitVec.toNat_not]
  exact h
theorem Yl.uandnot : Yl E H ρ (.binOp .andNot t x y t') (u64 (r &&& ~~~s)) := fun ms a w d t pos after g ha hw => by
  have h := u64_nat (r &&& ~~~s)
  simp only [execOp, ha.eval hx, ha.eval hy, u64, eqGuard, binOp, Op.intBits]
  simp only [IntKind.bits, u64_ofInt]
  simp [h, -BitVec.toNat_and, -BitVec.toNat_or, -BitVec.toNat_xor, -BitVec.toNat_not]
  exact h
theorem Yl.uxor : Yl E H ρ (.binOp .xor t x y t') (u64 (r ^^^ s)) := fun ms a w d t pos after g ha hw => by
  have h := u64_nat (r ^^^ s)
  simp only [execOp, ha.eval hx, ha.eval hy, u64, eqGuard, binOp, Op.intBits]
  simp only [IntKind.bits, u64_ofInt]
  simp [h, -BitVec.toNat_and, -BitVec.toNat_or, -BitVec.toNat_xor, -BitVec.toNat_not]
  exact h
theorem Yl.uadd : Yl E H ρ (.binOp .add t x y t') (u64 (r + s)) := by
  have h := Yl.addw (E := E) (H := H) (t := t) (t' := t') hx hy
  have e : IntKind.u64.wrap ((r.toNat : Int) + (s.toNat : Int)) = ((r + s).toNat : Int) := by
    rw [u64_wrap, BitVec.toNat_add]; omega
  rwa [e] at h
theorem Yl.usub : Yl E H ρ (.binOp .sub t x y t') (u64 (r - s)) := by
  have h := Yl.subw (E := E) (H := H) (t := t) (t' := t') hx hy
  have e : IntKind.u64.wrap ((r.toNat : Int) - (s.toNat : Int)) = ((r - s).toNat : Int) := by
    have := r.isLt; have := s.isLt
    rw [u64_wrap, BitVec.toNat_sub]; omega
  rwa [e] at h
theorem Yl.umul : Yl E H ρ (.binOp .mul t x y t') (u64 (r * s)) := by
  have h := Yl.mulw (E := E) (H := H) (t := t) (t' := t') hx hy
  have e : IntKind.u64.wrap ((r.toNat : Int) * (s.toNat : Int)) = ((r * s).toNat : Int) := by
    rw [u64_wrap, BitVec.toNat_mul, ← Int.natCast_mul]; omega
  rwa [e] at h
omit hx hy in
theorem u64_eq_iff : ((r.toNat : Int) = (s.toNat : Int)) ↔ r = s := ⟨fun h => BitVec.eq_of_toNat_eq (by omega), fun h => by rw [h]⟩
theorem Yl.ueql : Yl E H ρ (.binOp .eql t x y t') (.bool (decide (r = s))) := by
  have h := Yl.eql (E := E) (H := H) (t := t) (t' := t') hx hy
  have e : decide ((r.toNat : Int) = (s.toNat : Int)) = decide (r = s) := decide_eq_decide.2 (u64_eq_iff)
  rwa [e] at h
theorem Yl.uneq : Yl E H ρ (.binOp .neq t x y t') (.bool (decide (r ≠ s))) := by
  have h := Yl.neq (E := E) (H := H) (t := t) (t' := t') hx hy
  have e : decide ((r.toNat : Int) ≠ (s.toNat : Int)) = decide (r ≠ s) := decide_eq_decide.2 (not_congr (u64_eq_iff))
  rwa [e] at h
end u64
theorem Yl.ushl {t t' : TypeId} {x y : Operand} {r : BitVec 64} {k : IntKind} {n : Int} (hx : ev ρ x = some (u64 r)) (hy : ev ρ y = some (.int k n)) (hn : 0 ≤ n) : Yl E H ρ (.binOp .shl t x y t') (u64 (r <<< n.toNat)) := fun ms a w d t pos after g ha hw => by
  have e : IntKind.u64.wrap ((r.toNat : Int) * 2 ^ (min n.toNat 64)) = ((r <<< n.toNat).toNat : Int) := by
    rw [u64_wrap, BitVec.toNat_shiftLeft, Nat.shiftLeft_eq]
    by_cases h : n.toNat ≤ 64
    · rw [Nat.min_eq_left h]
      have : (r.toNat : Int) * 2 ^ n.toNat = ((r.toNat * 2 ^ n.toNat : Nat) : Int) := by simp
      rw [this]; omega
    · rw [Nat.min_eq_right (by omega)]
      obtain ⟨q, hq⟩ : ∃ q, n.toNat = 64 + q := ⟨n.toNat - 64, by omega⟩
      rw [hq, Nat.pow_add]
      have h1 : r.toNat * (2 ^ 64 * 2 ^ q) % 2 ^ 64 = 0 := by
        rw [Nat.mul_left_comm]; exact Nat.mul_mod_right _ _
      rw [h1]
      have h2 : (r.toNat : Int) * 2 ^ 64 = ((r.toNat * 2 ^ 64 : Nat) : Int) := by simp
      rw [h2]; omega
  have hlt : ¬ n < 0 := by omega
  simp only [execOp, ha.eval hx, ha.eval hy, u64, eqGuard, binOp, Op.shift]
  simp [hlt, IntKind.bits, e]
theorem Yl.ushr {t t' : TypeId} {x y : Operand} {r : BitVec 64} {k : IntKind} {n : Int} (hx : ev ρ x = some (u64 r)) (hy : ev ρ y = some (.int k n)) (hn : 0 ≤ n) : Yl E H ρ (.binOp .shr t x y t') (u64 (r >>> n.toNat)) := fun ms a w d t pos after g ha hw => by
  have e : ((r.toNat : Int).fdiv (2 ^ (min n.toNat 64))) = ((r >>> n.toNat).toNat : Int) := by
    rw [BitVec.toNat_ushiftRight, Nat.shiftRight_eq_div_pow]
    have hp : (2 ^ (min n.toNat 64) : Int) = ((2 ^ (min n.toNat 64) : Nat) : Int) := by simp
    rw [Int.fdiv_eq_ediv_of_nonneg _ (by rw [hp]; exact Int.natCast_nonneg _), hp, ← Int.natCast_ediv]
    congr 1
    by_cases h : n.toNat ≤ 64
    · rw [Nat.min_eq_left h]
    · rw [Nat.min_eq_right (by omega)]
      have hr := r.isLt
      rw [Nat.div_eq_of_lt hr, Nat.div_eq_of_lt]
      exact Nat.lt_of_lt_of_le hr (Nat.pow_le_pow_right (by omega) (by omega))
  have hlt : ¬ n < 0 := by omega
  simp only [execOp, ha.eval hx, ha.eval hy, u64, eqGuard, binOp, Op.shift]
  simp [hlt, IntKind.bits, e]
theorem Yl.not {t : TypeId} {x : Operand} {b : Bool} (hx : ev ρ x = some (.bool b)) : Yl E H ρ (.unOp .not t x) (.bool (!b)) := fun ms a w d t pos after g ha hw => by
  simp [execOp, ha.eval hx, Op.unary]
theorem Yl.neg {t : TypeId} {x : Operand} {n : Int} (hx : ev ρ x = some (.int .i64 n)) (h1 : -9223372036854775807 ≤ n) (h2 : n ≤ 9223372036854775807) : Yl E H ρ (.unOp .neg t x) (.int .i64 (-n)) := fun ms a w d t pos after g ha hw => by
  have e : IntKind.i64.wrap (-n) = -n := IntWalk.i64_in _ ⟨by omega, by omega⟩
  simp [execOp, ha.eval hx, Op.unary, Op.intArith, e]

/-! bools -/
theorem run_eqb {P : Program} {t : TypeId} {b c : Bool} (hu : P.underlying t = some .bool) (w : World) : (Op.equal t (.bool b) (.bool c)).run P w = .ok (b == c) w := by
  unfold Op.equal
  rw [show Op.maxDepth = 9999 + 1 from rfl, Op.equalIn]
  simp [run_underlying hu]
theorem Yl.beql {t t' : TypeId} {x y : Operand} {b c : Bool} (hu : E.P.underlying t = some .bool) (hx : ev ρ x = some (.bool b)) (hy : ev ρ y = some (.bool c)) : Yl E H ρ (.binOp .eql t x y t') (.bool (b == c)) := fun ms a w d t' pos after g ha hw => by
  simp [execOp, ha.eval hx, ha.eval hy, eqGuard, binOp, run_eqb hu]
theorem Yl.bneq {t t' : TypeId} {x y : Operand} {b c : Bool} (hu : E.P.underlying t = some .bool) (hx : ev ρ x = some (.bool b)) (hy : ev ρ y = some (.bool c)) : Yl E H ρ (.binOp .neq t x y t') (.bool (!(b == c))) := fun ms a w d t' pos after g ha hw => by
  simp [execOp, ha.eval hx, ha.eval hy, eqGuard, binOp, run_eqb hu]

/-! strings, as lists of bytes -/
def str (l : List UInt8) : Value := .string ⟨l.toArray⟩
theorem str_toList (l : List UInt8) : (⟨l.toArray⟩ : ByteArray).toList = l := by rw [ByteArray.toList_eq]
theorem list_beq (l m : List UInt8) : (l == m) = decide (l = m) := by rw [Bool.eq_iff_iff]; simp
theorem Yl.seql {t t' : TypeId} {x y : Operand} {b c : List UInt8} (hx : ev ρ x = some (str b)) (hy : ev ρ y = some (str c)) : Yl E H ρ (.binOp .eql t x y t') (.bool (decide (b = c))) := fun ms a w d t' pos after g ha hw => by
  simp [execOp, ha.eval hx, ha.eval hy, str, eqGuard, binOp, Op.stringOp, str_toList, list_beq]
theorem Yl.sneq {t t' : TypeId} {x y : Operand} {b c : List UInt8} (hx : ev ρ x = some (str b)) (hy : ev ρ y = some (str c)) : Yl E H ρ (.binOp .neq t x y t') (.bool (decide (b ≠ c))) := fun ms a w d t' pos after g ha hw => by
  simp [execOp, ha.eval hx, ha.eval hy, str, eqGuard, binOp, Op.stringOp, str_toList, list_beq]
theorem str_append (b c : List UInt8) : (⟨b.toArray⟩ : ByteArray) ++ ⟨c.toArray⟩ = ⟨(b ++ c).toArray⟩ := by
  apply ByteArray.ext
  simp
theorem str_size (l : List UInt8) : (⟨l.toArray⟩ : ByteArray).size = l.length := by simp [ByteArray.size]
theorem Yl.sadd {t t' : TypeId} {x y : Operand} {b c : List UInt8} (hx : ev ρ x = some (str b)) (hy : ev ρ y = some (str c)) (hl : b.length + c.length ≤ 281474976710656) : Yl E H ρ (.binOp .add t x y t') (str (b ++ c)) := fun ms a w d t' pos after g ha hw => by
  have e : ¬ (9223372036854775807 < (b.length : Int) + (c.length : Int)) := by omega
  simp [execOp, ha.eval hx, ha.eval hy, str, eqGuard, binOp, Op.stringOp, str_size, str_append, IntKind.max, IntKind.signed, IntKind.bits, e]

/-! conversions -/
theorem Yl.cvt {src dst : TypeId} {x : Operand} {k k' : IntKind} {n : Int} {ds : TypeDesc} (hs : E.P.underlying src = some ds) (hd : E.P.underlying dst = some (.int k)) (hx : ev ρ x = some (.int k' n)) (hw : k.wrap n = n) : Yl E H ρ (.convert src dst x) (.int k n) := fun ms a w d t' pos after g ha hw' => by
  simp [execOp, ha.eval hx, convert, run_underlying hd, run_underlying hs, Conv.intToInt, hw]
theorem i64_wrap {n : Int} (h1 : -9223372036854775808 ≤ n) (h2 : n ≤ 9223372036854775807) : IntKind.i64.wrap n = n := IntWalk.i64_in _ ⟨h1, h2⟩

/-! len, min, max -/
theorem Yl.len {T : TypeId} {x : Operand} {p : Option Addr} {n c : Nat} (e : TypeId) (hu : E.P.underlying T = some (.slice e)) (hx : ev ρ x = some (.slice p n c)) : Yl E H ρ (.call { callee := .builtin .len, args := #[x], argTypes := #[T] }) (.int .i64 n) := fun ms a w d t' pos after g ha hw => by
  simp [execOp, ha.eval hx, resolve, invoke, builtin, Builtin.len_, run_underlying hu, goInt]
theorem Yl.slen {T : TypeId} {x : Operand} {s : List UInt8} (hu : E.P.underlying T = some .string) (hx : ev ρ x = some (str s)) : Yl E H ρ (.call { callee := .builtin .len, args := #[x], argTypes := #[T] }) (.int .i64 s.length) := fun ms a w d t' pos after g ha hw => by
  simp [execOp, ha.eval hx, str, str_size, resolve, invoke, builtin, Builtin.len_, run_underlying hu, goInt]
theorem Yl.imin {ts : Array TypeId} {x y : Operand} {k : IntKind} {m n : Int} (hx : ev ρ x = some (.int k m)) (hy : ev ρ y = some (.int k n)) : Yl E H ρ (.call { callee := .builtin .min, args := #[x, y], argTypes := ts }) (.int k (min m n)) := fun ms a w d t' pos after g ha hw => by
  have e : (if n < m then n else m) = min m n := by rw [Int.min_def]; split <;> split <;> omega
  simp [execOp, ha.eval hx, ha.eval hy, resolve, invoke, builtin, Builtin.min_, Builtin.min2, e]
theorem Yl.imax {ts : Array TypeId} {x y : Operand} {k : IntKind} {m n : Int} (hx : ev ρ x = some (.int k m)) (hy : ev ρ y = some (.int k n)) : Yl E H ρ (.call { callee := .builtin .max, args := #[x, y], argTypes := ts }) (.int k (max m n)) := fun ms a w d t' pos after g ha hw => by
  have e : (if m < n then n else m) = max m n := by rw [Int.max_def]; split <;> split <;> omega
  simp [execOp, ha.eval hx, ha.eval hy, resolve, invoke, builtin, Builtin.max_, Builtin.max2, e]

/-! addresses -/
theorem Yl.fieldAddr {s : TypeId} {x : Operand} {f b o off n : Nat} {ft : TypeId} (hf : fdOf E.P s f = some (off, ft, n + 1)) (hx : ev ρ x = some (.pointer (some ⟨b, o, none⟩))) : Yl E H ρ (.fieldAddr s x f) (.pointer (some ⟨b, o + off, none⟩)) := fun ms a w d t' pos after g ha hw => by
  unfold fdOf at hf
  split at hf
  · rename_i fs hu
    split at hf
    · rename_i fd hfd
      obtain ⟨i, hi, he⟩ := Option.map_eq_some_iff.1 hf
      simp only [Prod.mk.injEq] at he
      obtain ⟨rfl, rfl, he⟩ := he
      have hs : (sizeOf fd.type).run E.P w = .ok (n + 1) w := by simp [sizeOf, typeInfo, hi, he]
      simp [execOp, ha.eval hx, Instr.fieldAt, run_underlying hu, hfd, Instr.sureAddr, fieldPlace, hs, addr_add]
    · cases hf
  · cases hf
theorem Yl.indexArr {T e : TypeId} {x y : Operand} {b o len sz : Nat} {k : IntKind} {i : Int} (hu : E.P.underlying T = some (.array len e)) (hs : Sz E.P e sz) (hx : ev ρ x = some (.pointer (some ⟨b, o, none⟩))) (hy : ev ρ y = some (.int k i)) (h0 : 0 ≤ i) (h1 : i < len) :
    Yl E H ρ (.indexAddr T x y) (.pointer (some ⟨b, o + i.toNat * sz, none⟩)) := fun ms a w d t' pos after g ha hw => by
  simp [execOp, ha.eval hx, ha.eval hy, Instr.indexAt, asIntOf, run_underlying hu, Instr.sureAddr, h0, h1, run_sz w hs, addr_add]
theorem Yl.indexSl {T e : TypeId} {x y : Operand} {b o len cap sz : Nat} {k : IntKind} {i : Int} (hu : E.P.underlying T = some (.slice e)) (hs : Sz E.P e sz) (hx : ev ρ x = some (.slice (some ⟨b, o, none⟩) len cap)) (hy : ev ρ y = some (.int k i)) (h0 : 0 ≤ i) (h1 : i < len) :
    Yl E H ρ (.indexAddr T x y) (.pointer (some ⟨b, o + i.toNat * sz, none⟩)) := fun ms a w d t' pos after g ha hw => by
  simp [execOp, ha.eval hx, ha.eval hy, Instr.indexAt, asIntOf, run_underlying hu, h0, h1, run_sz w hs, addr_add]
/-- A byte of a string. -/
theorem Yl.indexStr {T : TypeId} {x y : Operand} {s : List UInt8} {k : IntKind} {i : Int} {c : UInt8} (hu : E.P.underlying T = some .string) (hx : ev ρ x = some (str s)) (hy : ev ρ y = some (.int k i)) (h0 : 0 ≤ i) (h1 : s[i.toNat]? = some c) :
    Yl E H ρ (.index T x y) (.int .u8 c.toNat) := fun ms a w d t' pos after g ha hw => by
  have e : (⟨s.toArray⟩ : ByteArray)[i.toNat]? = some c := by
    obtain ⟨h2, h3⟩ := List.getElem?_eq_some_iff.1 h1
    have h4 : i.toNat < (⟨s.toArray⟩ : ByteArray).size := by rw [str_size]; exact h2
    rw [getElem?_pos (⟨s.toArray⟩ : ByteArray) i.toNat h4]
    exact congrArg some h3
  simp [execOp, ha.eval hx, ha.eval hy, str, Instr.index, asIntOf, run_underlying hu, h0, e]
theorem Yl.extract {x : Operand} {vs : Array Value} {i : Nat} {v : Value} (hx : ev ρ x = some (.tuple vs)) (hv : vs[i]? = some v) : Yl E H ρ (.extract x i) v := fun ms a w d t' pos after g ha hw => by
  simp [execOp, ha.eval hx, Instr.extract, hv]
theorem Yl.mkIface {T : TypeId} {x : Operand} {v : Value} {ds : TypeDesc} (hu : E.P.underlying T = some ds) (hi : (match ds with | .interface _ => true | _ => false) = false) (hx : ev ρ x = some v) : Yl E H ρ (.makeInterface T x) (.iface T v) := fun ms a w d t' pos after g ha hw => by
  simp only [execOp, ha.eval hx, Instr.makeInterface, Sem.run_bind, run_underlying hu, Result.andThen_ok]
  cases ds <;> first | rfl | (simp at hi)
theorem Yl.mkFunc {fn : Fn} {first caps : Array Operand} {vs us : List Value} (h1 : evs ρ first.toList = some vs) (h2 : evs ρ caps.toList = some us) : Yl E H ρ (.makeFunc fn first caps) (.func fn vs.toArray us.toArray) := fun ms a w d t' pos after g ha hw => by
  have e1 : first.map a.eval = vs.toArray := by rw [← ha.evals h1, ← Array.toList_map, Array.toArray_toList]
  have e2 : caps.map a.eval = us.toArray := by rw [← ha.evals h2, ← Array.toList_map, Array.toArray_toList]
  simp [execOp, Instr.makeFunc, e1, e2]

/-! slicing: x[:h], x[l:], x[l:h] -/
theorem Yl.sliceTo {T e : TypeId} {x y : Operand} {p : Option Addr} {len cap sz : Nat} {k : IntKind} {h : Int} (hu : E.P.underlying T = some (.slice e)) (hs : Sz E.P e sz) (hx : ev ρ x = some (.slice p len cap)) (hy : ev ρ y = some (.int k h)) (h0 : 0 ≤ h) (h1 : h ≤ cap) :
    Yl E H ρ (.slice T x none (some y) none) (.slice p h.toNat cap) := fun ms a w d t' pos after g ha hw => by
  have e : ∀ q : Addr, q.add 0 = q := fun q => rfl
  simp [execOp, ha.eval hx, ha.eval hy, Instr.sliceAt, Instr.slice, Instr.sliceBounds, Instr.sliceBound, asIntOf, run_underlying hu, h0, h1, run_sz w hs]
  intro _
  cases p <;> simp [e]

/-! loads -/
theorem Yl.loadCell {T : TypeId} {x : Operand} {p : Addr} {v : Value} (ht : Sc E.P T) (hx : ev ρ x = some (.pointer (some p))) (hc : ∀ {ms} w, Own E ms H w → w.cell? p = some v) : Yl E H ρ (.load T x) v := fun ms a w d t' pos after g ha hw => by
  obtain ⟨ms', hw⟩ := hw
  simp [execOp, ha.eval hx, Instr.loadAt, Instr.sureAddr, loadVar, run_isAgg w ht, hc w hw]
theorem cell_of_box {w : World} {b o : Nat} {cs : Array Value} {T : TypeId} {fr : Nat × Nat} (h : w.heap[b]? = some (.cells cs T fr)) : w.cell? ⟨b, o, none⟩ = cs[o]? := by simp [World.cell?, h]
/-- A cell of a box. -/
theorem Yl.load (k : Nat) {T T' : TypeId} {x : Operand} {b o : Nat} {cs : Array Value} {v : Value} (hk : hlook H k = some (box b cs T')) (ht : Sc E.P T) (hx : ev ρ x = some (.pointer (some ⟨b, o, none⟩))) (hv : cs[o]? = some v) : Yl E H ρ (.load T x) v :=
  Yl.loadCell ht hx fun w hw => by
    obtain ⟨S, _, _, h⟩ := hw.get hk
    rw [cell_of_box h, hv]
/-- A whole box. -/
theorem Yl.loadAll (k : Nat) {T T' : TypeId} {x : Operand} {b n : Nat} {cs : Array Value} (hk : hlook H k = some (box b cs T')) (ht : Ag E.P T n) (hn : cs.size = n) (hx : ev ρ x = some (.pointer (some ⟨b, 0, none⟩))) : Yl E H ρ (.load T x) (.agg cs) := fun ms a w d t' pos after g ha hw => by
  obtain ⟨ms', hw⟩ := hw
  obtain ⟨S, _, _, h⟩ := hw.get hk
  obtain ⟨d', hd, hd2⟩ := Option.map_eq_some_iff.1 ht.1
  have hr := run_loadVar_row w b T' T cs (0, 0) d' h hd (by cases d' <;> first | rfl | (cases hd2)) (by rw [hn]; exact ht.2)
  simp [execOp, ha.eval hx, Instr.loadAt, Instr.sureAddr, hr]

/-! ### memory -/
variable {K : Act → World → Prop}
theorem below_alloc (w : World) (o : Obj) : Below w.heap.size w (w.alloc o) := (Below.refl _ _).alloc (Nat.le_refl _) o
theorem new_alloc (w : World) (o : Obj) : New w (w.alloc o) w.heap.size := ⟨Nat.le_refl _, by simp⟩
theorem Own.alloc {w : World} {ms : List Nat} (h : Own E ms H w) (k : Nat) (cs : Array Value) (T : TypeId) : Own E ms ((k, box w.heap.size cs T) :: H) (w.alloc (.cells cs T)) :=
  h.more (below_alloc w _) k _ ⟨new_alloc w _, heap_alloc_new w _⟩
theorem GO.alloc (k : Nat) {T : TypeId} {z : Value} {d : Option Tmp} {t : TypeId} {pos : String} {after : Array Edge} {g : Option (Nat × Bool)} (hz : Zr E.P T z) (hd : okd E.n d = true)
    (h : ∀ b, E.base ≤ b → GK E K ((k, box b z.cells T) :: H) (putd ρ d (.pointer (some ⟨b, 0, none⟩)))) : GO E ⟨d, .alloc T, t, pos, after, g⟩ K H ρ := fun ms a w ha hw => by
  have hr : (execOp a.eval ⟨d, .alloc T, t, pos, after, g⟩).run E.P w = .ok (.value (.pointer (some ⟨w.heap.size, 0, none⟩))) (w.alloc (.cells z.cells T)) := by
    simp [execOp, Instr.alloc, run_zr w hz, newVar, newRow]
  unfold opW
  rw [hr]
  exact h w.heap.size hw.size ms _ _ (ha.putd hd _) (hw.alloc k z.cells T)
theorem GO.box (k : Nat) {T : TypeId} {x : Operand} {v : Value} {d : Option Tmp} {t : TypeId} {pos : String} {after : Array Edge} {g : Option (Nat × Bool)} (hx : ev ρ x = some v) (hd : okd E.n d = true)
    (h : ∀ b, E.base ≤ b → GK E K ((k, Dv.box b v.cells T) :: H) (putd ρ d (.pointer (some ⟨b, 0, none⟩)))) : GO E ⟨d, .box T x, t, pos, after, g⟩ K H ρ := fun ms a w ha hw => by
  have hr : (execOp a.eval ⟨d, .box T x, t, pos, after, g⟩).run E.P w = .ok (.value (.pointer (some ⟨w.heap.size, 0, none⟩))) (w.alloc (.cells v.cells T)) := by
    simp [execOp, Instr.box, ha.eval hx, newVar, newRow]
  unfold opW
  rw [hr]
  exact h w.heap.size hw.size ms _ _ (ha.putd hd _) (hw.alloc k v.cells T)

theorem heap_setCell_same {w : World} {b o : Nat} {cs : Array Value} {T : TypeId} {fr : Nat × Nat} (h : w.heap[b]? = some (.cells cs T fr)) (v : Value) : (w.setCell ⟨b, o, none⟩ v).heap[b]? = some (.cells (cs.setIfInBounds o v) T fr) := by
  simp [World.setCell, Array.getElem?_modify, h]
theorem Own.setBox {w : World} {ms : List Nat} (h : Own E ms H w) {k : Nat} {b : Nat} {cs : Array Value} {T : TypeId} (hk : hlook H k = some (Dv.box b cs T)) (o : Nat) (v : Value) : Own E ms ((k, Dv.box b (cs.setIfInBounds o v) T) :: H) (w.setCell ⟨b, o, none⟩ v) :=
  h.turn hk (by simp) rfl rfl rfl fun S ⟨h1, h2⟩ _ => ⟨fun c _ hc => Below.heap_setCell _ _ _ _ (fun e => hc (by rw [e]; exact h1)), .inl h1, heap_setCell_same h2 v⟩
/-- A store of one cell into a box. -/
theorem GO.store (k : Nat) {T T' : TypeId} {x y : Operand} {b o : Nat} {cs : Array Value} {v : Value} {d : Option Tmp} {t : TypeId} {pos : String} {after : Array Edge} {g : Option (Nat × Bool)} (hk : hlook H k = some (Dv.box b cs T')) (hs : Sz E.P T 1)
    (hx : ev ρ x = some (.pointer (some ⟨b, o, none⟩))) (hy : ev ρ y = some v) (hv : v.oneCell' = true) (ho : o < cs.size) (hd : okd E.n d = true)
    (h : GK E K ((k, Dv.box b (cs.setIfInBounds o v) T') :: H) (putd ρ d undef)) : GO E ⟨d, .store T x y, t, pos, after, g⟩ K H ρ := fun ms a w ha hw => by
  obtain ⟨S, _, _, hb⟩ := hw.get hk
  have hc : v.cells = #[v] := by cases v <;> first | rfl | (simp [Value.oneCell'] at hv)
  have h1 : w.cell? ⟨b, o, none⟩ = some cs[o] := by rw [cell_of_box hb]; simp [ho]
  have h2 : w.frozen? ⟨b, o, none⟩ = false := by simp [World.frozen?, hb]
  have hadd : (⟨b, o, none⟩ : Addr).add 0 = ⟨b, o, none⟩ := rfl
  have hr : (execOp a.eval ⟨d, .store T x y, t, pos, after, g⟩).run E.P w = .ok .skip (w.setCell ⟨b, o, none⟩ v) := by
    simp [execOp, Instr.storeAt, ha.eval hx, ha.eval hy, Instr.sureAddr, storeVar, run_sz w hs, hc, storeCells, hadd, run_store E.P w ⟨b, o, none⟩ v .plain hv, h1, h2]
  unfold opW
  rw [hr]
  exact h ms _ _ (ha.putd hd _) (hw.setBox hk o v)

/-! ### what lay there when the call began -/
theorem Own.cell0 {w : World} {ms : List Nat} (hw : Own E ms H w) (hE : E.base = E.w0.heap.size) {p : Addr} {v : Value} (h : E.w0.cell? p = some v) : w.cell? p = some v := by
  rw [hw.below.cell (p := p) (by rw [hE]; exact World.block_lt_of_cell? _ _ h)]
  exact h
/-- v reads as a slice of elements of one cell: the cells cs. -/
def IsSl (w : World) (v : Value) (cs : List Value) : Prop := ∃ p c, v = .slice p cs.length c ∧ cs.length ≤ c ∧ ∀ (j : Nat) (x : Value), cs[j]? = some x → ∃ b o, p = some ⟨b, o, none⟩ ∧ w.cell? ⟨b, o + j, none⟩ = some x
theorem IsSl.below {w w' : World} {v : Value} {cs : List Value} (h : IsSl w v cs) (hb : Below w.heap.size w w') : IsSl w' v cs := by
  obtain ⟨p, c, rfl, hc, hx⟩ := h
  refine ⟨p, c, rfl, hc, fun j x hj => ?_⟩
  obtain ⟨b, o, rfl, h1⟩ := hx j x hj
  exact ⟨b, o, rfl, by rw [hb.cell (World.block_lt_of_cell? _ _ h1)]; exact h1⟩
theorem Own.sl0 {w : World} {ms : List Nat} (hw : Own E ms H w) (hE : E.base = E.w0.heap.size) {v : Value} {cs : List Value} (h : IsSl E.w0 v cs) : IsSl w v cs := by
  have hb := hw.below
  rw [hE] at hb
  exact h.below hb
abbrev RetB (P : Program) (f : FuncId) (args : List Value) (w : World) (v : Value) : Prop := Calls P f args.toArray w fun e w' => e = .returned v ∧ Below w.heap.size w w'
theorem ret_eq {v v' : Value} (h : v = v') : Ending.returned v = .returned v' := by rw [h]

/-! ### calls -/
/-- Function g has a body of its own: a call enters it. -/
structure Enters (P : Program) (f : FuncId) : Prop where
  run : ∀ args w, (callFunc f args).run P w = .ok (.enter f args) w
theorem enters_of {P : Program} {f : FuncId} {fn : Func} (hf : P.funcs[f]? = some fn) (hn : (fn.name == "runtime.NumGoroutine") = false) (hb : fn.body.isNone = false) : Enters P f := ⟨fun args w => by
  have hn' : ¬ ((fn.name == "runtime.NumGoroutine") = true) := by rw [hn]; simp
  have hb' : ¬ (fn.body.isNone = true) := by rw [hb]; simp
  unfold callFunc
  rw [Sem.run_bind, run_program, Result.andThen_ok, hf]
  simp only
  rw [if_neg hn', if_neg hb']
  rfl⟩
theorem GO.call {x : Operand} {args : Array Operand} {ts : Array TypeId} {f : FuncId} {vs cap : List Value} {d : Option Tmp} {t : TypeId} {pos : String} {after : Array Edge} {g : Option (Nat × Bool)}
    (hf : ev ρ x = some (.func (.func f) #[] cap.toArray)) (he : Enters E.P f) (hv : evs ρ args.toList = some vs) (hd : okd E.n d = true) (hT : True)
    (h : ∀ {ms} w, Own E ms H w → Calls E.P f (vs ++ cap).toArray w fun e w' => ∃ v, e = .returned v ∧ ∃ H', Own E ms H' w' ∧ GK E K H' (putd ρ d v)) : GO E ⟨d, .call { callee := .value x, args := args, argTypes := ts }, t, pos, after, g⟩ K H ρ := fun ms a w ha hw => by
  have e1 : args.map a.eval = vs.toArray := by rw [← ha.evals hv, ← Array.toList_map, Array.toArray_toList]
  have e2 : #[] ++ vs.toArray ++ cap.toArray = (vs ++ cap).toArray := by simp
  have hr : (execOp a.eval ⟨d, .call { callee := .value x, args := args, argTypes := ts }, t, pos, after, g⟩).run E.P w = .ok (.enter f (vs ++ cap).toArray) w := by
    simp only [execOp, resolve, e1, ha.eval hf, Deferred.ofValue, Sem.run_bind, Sem.run_pure, Result.andThen_ok, invoke]
    rw [e2]
    exact he.run _ w
  unfold opW
  rw [hr]
  refine (h w hw).mono ?_
  rintro e w' ⟨v, rfl, H', hO, hK⟩
  exact ⟨v, rfl, hK ms _ _ (ha.putd hd v) hO⟩
/-- The same of a function that is named. -/
theorem GO.callf {f : FuncId} {args : Array Operand} {ts : Array TypeId} {vs : List Value} {d : Option Tmp} {t : TypeId} {pos : String} {after : Array Edge} {g : Option (Nat × Bool)}
    (he : Enters E.P f) (hv : evs ρ args.toList = some vs) (hd : okd E.n d = true)
    (h : ∀ {ms} w, Own E ms H w → Calls E.P f vs.toArray w fun e w' => ∃ v, e = .returned v ∧ ∃ H', Own E ms H' w' ∧ GK E K H' (putd ρ d v)) : GO E ⟨d, .call { callee := .value (.func f), args := args, argTypes := ts }, t, pos, after, g⟩ K H ρ :=
  GO.call (x := .func f) (cap := []) rfl he hv hd trivial (fun w hw => by rw [List.append_nil]; exact h w hw)
/-- A call whose one value is known and that only makes memory. -/
theorem GO.callv (v : Value) {args : Array Operand} {ts : Array TypeId} {f : FuncId} {vs : List Value} {d : Option Tmp} {t : TypeId} {pos : String} {after : Array Edge} {g : Option (Nat × Bool)}
    (he : Enters E.P f) (hv : evs ρ args.toList = some vs) (hd : okd E.n d = true)
    (hc : ∀ {ms} w, Own E ms H w → Calls E.P f vs.toArray w fun e w' => e = .returned v ∧ Below w.heap.size w w') (h : GK E K H (putd ρ d v)) : GO E ⟨d, .call { callee := .value (.func f), args := args, argTypes := ts }, t, pos, after, g⟩ K H ρ :=
  GO.callf he hv hd fun w hw => (hc w hw).mono fun e w' ⟨h1, h2⟩ => ⟨v, h1, H, hw.grow h2, h⟩
/-- A call that hands back something in new memory. -/
theorem GO.calln (k : Nat) {α : Type} (val : α → Value) (A : α → Asrt) (φ : α → Prop) {args : Array Operand} {ts : Array TypeId} {f : FuncId} {vs : List Value} {d : Option Tmp} {t : TypeId} {pos : String} {after : Array Edge} {g : Option (Nat × Bool)}
    (he : Enters E.P f) (hv : evs ρ args.toList = some vs) (hd : okd E.n d = true)
    (hc : ∀ {ms} w, Own E ms H w → Calls E.P f vs.toArray w fun e w' => ∃ r, e = .returned (val r) ∧ φ r ∧ Below w.heap.size w w' ∧ (A r).holds (New w w') w') (h : ∀ r, φ r → GK E K ((k, A r) :: H) (putd ρ d (val r))) : GO E ⟨d, .call { callee := .value (.func f), args := args, argTypes := ts }, t, pos, after, g⟩ K H ρ :=
  GO.callf he hv hd fun w hw => (hc w hw).mono fun e w' ⟨r, h1, h2, h3, h4⟩ => ⟨val r, h1, _, hw.more h3 k (A r) h4, h r h2⟩
end
end Go.Proofs.YtligejpfbcdpmaaDoor.Dv
