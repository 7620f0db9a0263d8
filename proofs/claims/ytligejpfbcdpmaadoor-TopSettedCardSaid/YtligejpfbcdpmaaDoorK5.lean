/- More operations of the walk: unary minus, masks, an element of a whole array.
   No condition. -/
import Derived.Test.YtligejpfbcdpmaaDoorK4
namespace Go.Proofs.YtligejpfbcdpmaaDoor.Dv
set_option linter.unusedVariables false
set_option linter.unusedSimpArgs false
open Go.RowKit
section
variable {E : Env} {H : Heap} {ρ : Regs} {K : Act → World → Prop} {Q : Exit → Act → World → Prop}
theorem Yl.uneg {t : TypeId} {x : Operand} {r : BitVec 64} (hx : ev ρ x = some (u64 r)) : Yl E H ρ (.unOp .neg t x) (u64 (-r)) := fun ms a w d t pos after g ha hw => by
  have e : IntKind.u64.wrap (-(r.toNat : Int)) = ((-r).toNat : Int) := by
    have := r.isLt
    rw [u64_wrap, BitVec.toNat_neg]; omega
  simp only [execOp, ha.eval hx, u64, Op.unary, Op.intArith, Int.zero_sub]
  rw [e]
  rfl
/-- The lowest seven bits of an int that is not negative. -/
theorem Yl.low7 {t t' : TypeId} {x y : Operand} {n : Int} (hx : ev ρ x = some (.int .i64 n)) (hy : ev ρ y = some (.int .i64 127)) (h0 : 0 ≤ n) (h1 : n ≤ 9223372036854775807) : Yl E H ρ (.binOp .and t x y t') (.int .i64 (n % 128)) := fun ms a w d t pos after g ha hw => by
  obtain ⟨m, rfl⟩ : ∃ m : Nat, n = m := ⟨n.toNat, by omega⟩
  have e : ((BitVec.ofInt 64 (m : Int)) &&& BitVec.ofInt 64 127).toNat = m % 128 := by
    rw [BitVec.toNat_and, BitVec.toNat_ofInt, BitVec.toNat_ofInt]
    have h2 : ((m : Int) % ((2 ^ 64 : Nat) : Int)).toNat = m := by omega
    have h3 : ((127 : Int) % ((2 ^ 64 : Nat) : Int)).toNat = 127 := by rfl
    rw [h2, h3]
    exact Nat.and_two_pow_sub_one_eq_mod m 7
  have e2 : IntKind.i64.wrap (((m % 128 : Nat)) : Int) = (m : Int) % 128 := by
    rw [i64_wrap (by omega) (by omega)]; omega
  have e' : IntKind.i64.wrap ((((BitVec.ofInt IntKind.i64.bits (m : Int)) &&& BitVec.ofInt IntKind.i64.bits 127).toNat : Nat) : Int) = (m : Int) % 128 := by
    refine Eq.trans (congrArg (fun z : Nat => IntKind.i64.wrap (z : Int)) ?_) e2
    exact e
  simp only [execOp, ha.eval hx, ha.eval hy, eqGuard, binOp, Op.intBits, e']
  simp
/-- An element of an array that is a value. -/
theorem Yl.indexAgg {T e : TypeId} {x y : Operand} {cs : Array Value} {len : Nat} {k : IntKind} {i : Int} {v : Value} (hu : E.P.underlying T = some (.array len e)) (hs : Sz E.P e 1) (ha' : Sc E.P e) (hx : ev ρ x = some (.agg cs)) (hy : ev ρ y = some (.int k i)) (h0 : 0 ≤ i) (h1 : i < len) (hv : cs[i.toNat]? = some v) :
    Yl E H ρ (.index T x y) v := fun ms a w d t' pos after g ha hw => by
  have h2 := run_isAgg w ha'
  have h3 := run_sz w hs
  simp [execOp, ha.eval hx, ha.eval hy, Instr.index, asIntOf, run_underlying hu, h0, h1, h3, Go.part, h2, hv]
theorem sliceCells_one {z v : Value} (hz : z.cells.size = 1) (hv : v.cells = #[v]) : sliceCells z 1 1 [(0, v)] = some #[v] := by
  simp [sliceCells, Instr.fill, hv, Array.range]
  apply Array.ext
  · simp
  · intro i h1 h2
    simp at h1
    subst h1
    simp
/-! a func beside nil -/
theorem Yl.fnil_t {t t' : TypeId} {x y : Operand} {ps rs : Array TypeId} {v : Bool} (hu : E.P.underlying t = some (.func ps rs v)) (hx : ev ρ x = some .nilFunc) (hy : ev ρ y = some .nilFunc) : Yl E H ρ (.binOp .eql t x y t') (.bool true) := fun ms a w d t' pos after g ha hw => by
  simp only [execOp, ha.eval hx, ha.eval hy, eqGuard, binOp, Op.equal]
  rw [show Op.maxDepth = 9999 + 1 from rfl, Op.equalIn]
  simp [run_underlying hu]
theorem Yl.fnil_f {t t' : TypeId} {x y : Operand} {ps rs : Array TypeId} {v : Bool} {fn : Fn} {as cs : Array Value} (hu : E.P.underlying t = some (.func ps rs v)) (hx : ev ρ x = some (.func fn as cs)) (hy : ev ρ y = some .nilFunc) : Yl E H ρ (.binOp .eql t x y t') (.bool false) := fun ms a w d t' pos after g ha hw => by
  simp only [execOp, ha.eval hx, ha.eval hy, eqGuard, binOp, Op.equal]
  rw [show Op.maxDepth = 9999 + 1 from rfl, Op.equalIn]
  simp [run_underlying hu]
/-- What a row's value looks like. -/
theorem row_shape {S : Nat → Prop} {w : World} {v : Value} {e : TypeId} {n : Nat} {xs : List Value} (h : (row v e 1 n xs).holds S w) : ∃ p c, v = .slice p n c ∧ n ≤ c ∧ n = xs.length ∧ (0 < n → ∃ g, p = some ⟨g, 0, none⟩) := by
  obtain ⟨⟨h1, h2⟩, _⟩ := h
  have hn : n = xs.length := by omega
  rcases h2 with ⟨rfl, h2⟩ | ⟨g, cap, cur, rfl, _, hg, hc, _⟩
  · exact ⟨none, 0, by rw [show n = 0 by omega], by omega, hn, fun h => by omega⟩
  · exact ⟨some ⟨g, 0, none⟩, cap, rfl, hc, hn, fun _ => ⟨g, rfl⟩⟩
theorem GK.shape (k : Nat) {v : Value} {e : TypeId} {n : Nat} {xs : List Value} (hk : hlook H k = some (row v e 1 n xs)) (h : ∀ p c, v = .slice p n c → n ≤ c → n = xs.length → (0 < n → ∃ g, p = some ⟨g, 0, none⟩) → GK E K H ρ) : GK E K H ρ :=
  GK.know (p := ∃ p c, v = .slice p n c ∧ n ≤ c ∧ n = xs.length ∧ (0 < n → ∃ g, p = some ⟨g, 0, none⟩)) (fun ms w hw => by obtain ⟨S, _, hs⟩ := hw.get hk; exact row_shape hs) fun ⟨p, c, h1, h2, h3, h4⟩ => h p c h1 h2 h3 h4
/-- A call through a value, whose one value is known and that only makes memory. -/
theorem GO.callw (v : Value) {x : Operand} {args : Array Operand} {ts : Array TypeId} {f : FuncId} {vs cap : List Value} {d : Option Tmp} {t : TypeId} {pos : String} {after : Array Edge} {g : Option (Nat × Bool)}
    (hf : ev ρ x = some (.func (.func f) #[] cap.toArray)) (he : Enters E.P f) (hv : evs ρ args.toList = some vs) (hd : okd E.n d = true)
    (hc : ∀ {ms} w, Own E ms H w → Calls E.P f (vs ++ cap).toArray w fun e w' => e = .returned v ∧ Below w.heap.size w w') (h : GK E K H (putd ρ d v)) : GO E ⟨d, .call { callee := .value x, args := args, argTypes := ts }, t, pos, after, g⟩ K H ρ :=
  GO.call hf he hv hd trivial fun w hw => (hc w hw).mono fun e w' ⟨h1, h2⟩ => ⟨v, h1, H, hw.grow h2, h⟩
/-- A store of a whole variable into a box. -/
theorem GO.storeAll (k : Nat) {T T' : TypeId} {x y : Operand} {b : Nat} {cs old : Array Value} {n : Nat} {d : Option Tmp} {t : TypeId} {pos : String} {after : Array Edge} {g : Option (Nat × Bool)} (hk : hlook H k = some (Dv.box b old T')) (hs : Sz E.P T n)
    (hx : ev ρ x = some (.pointer (some ⟨b, 0, none⟩))) (hy : ev ρ y = some (.agg cs)) (hn : cs.size = n) (ho : old.size = n) (hv : cs.all (·.oneCell') = true) (hd : okd E.n d = true)
    (h : GK E K ((k, Dv.box b cs T') :: H) (putd ρ d undef)) : GO E ⟨d, .store T x y, t, pos, after, g⟩ K H ρ := fun ms a w ha hw => by
  obtain ⟨S, _, _, hb⟩ := hw.get hk
  have hr : (execOp a.eval ⟨d, .store T x y, t, pos, after, g⟩).run E.P w = .ok .skip (w.setRow b cs) := by
    have h1 := run_storeVar_row (P := E.P) w b T' T old cs hb (by rw [hn]; exact hs) (by rw [ho, hn]) hv
    simp [execOp, Instr.storeAt, ha.eval hx, ha.eval hy, Instr.sureAddr, h1]
  unfold opW
  rw [hr]
  refine h ms _ _ (ha.putd hd _) (hw.turn hk (by simp) rfl rfl rfl fun S ⟨h1, h2⟩ _ => ⟨fun c _ hc => setRow_other _ _ _ _ (fun e => hc (by rw [e]; exact h1)), .inl h1, setRow_heap _ _ _ _ _ _ h2⟩)
theorem Own.boxSl {ms : List Nat} {w : World} (h : Own E ms H w) {k b : Nat} {cs : Array Value} {T : TypeId} (hk : hlook H k = some (Dv.box b cs T)) : IsSl w (.slice (some ⟨b, 0, none⟩) cs.toList.length cs.toList.length) cs.toList := by
  obtain ⟨S, _, _, hb⟩ := h.get hk
  refine ⟨_, _, rfl, Nat.le_refl _, fun j x hj => ⟨b, 0, rfl, ?_⟩⟩
  rw [Nat.zero_add, cell_of_box hb]
  simpa using hj
theorem isSl_nil (w : World) : IsSl w (.slice none 0 0) [] := ⟨none, 0, rfl, Nat.le_refl _, fun j x hj => by cases hj⟩
theorem IsSl.take {w : World} {p : Option Addr} {n c : Nat} {xs : List Value} (h : IsSl w (.slice p n c) xs) {m : Nat} (hm : m ≤ xs.length) : IsSl w (.slice p m c) (xs.take m) := by
  obtain ⟨p', c', e, hc, hx⟩ := h
  cases e
  have hl : (xs.take m).length = m := by rw [List.length_take]; omega
  refine ⟨p, c, by rw [hl], by rw [hl]; omega, fun j x hj => hx j x ?_⟩
  rw [List.getElem?_take] at hj
  split at hj
  · exact hj
  · cases hj
theorem sliceCells_three {z u v x : Value} (hz : z.cells.size = 1) (hu : u.cells = #[u]) (hv : v.cells = #[v]) (hx : x.cells = #[x]) : sliceCells z 1 3 [(0, u), (1, v), (2, x)] = some #[u, v, x] := by
  simp [sliceCells, Instr.fill, hu, hv, hx, Array.range]
  apply Array.ext
  · simp
  · intro i h1 h2
    simp at h1
    have : i = 0 ∨ i = 1 ∨ i = 2 := by omega
    rcases this with rfl | rfl | rfl <;> simp
/-- Ways that meet behind a piece of code. -/
theorem GC.join {σ : Type} {x : Code} (J : σ → Prop) (H' : σ → Heap) (ρ' : σ → Regs)
    (h1 : GC E x (Exit.then (fun a w => ∃ s ms, J s ∧ Agree E.n ms a (ρ' s) ∧ Own E ms (H' s) w) Q) H ρ) (h2 : ∀ s, J s → GE E Q .normal (H' s) (ρ' s)) : GC E x Q H ρ := fun ms a w ha hw => by
  refine wpIn_mono (h1 ms a w ha hw) ?_
  intro e a' w' hq
  cases e with
  | normal =>
    obtain ⟨s, ms, h1, h3, h4⟩ := hq
    exact h2 s h1 ms a' w' h3 h4
  | exit id => exact hq
  | goto l => exact hq
  | ret => exact hq
  | panic ch => exact hq
  | outgrown => exact hq
/-! ends of a round -/
theorem GE.round_n {α σ τ : Type} {rel : List α → σ → Prop} {Hs : σ → Heap} {out : Code → List α → τ → Prop} {Hx : τ → Heap} {pre : List α} (s : σ) (h1 : rel pre s) (h2 : HSub (Hs s) H) : GE E (roundQ E rel Hs out Hx pre) .normal H ρ := fun ms a w ha hw => ⟨s, ms, h1, hw.sub h2⟩
theorem GE.round_ret {α σ τ : Type} {rel : List α → σ → Prop} {Hs : σ → Heap} {out : Code → List α → τ → Prop} {Hx : τ → Heap} {pre : List α} (t : τ) (h1 : out .ret pre t) (h2 : HSub (Hx t) H) : GE E (roundQ E rel Hs out Hx pre) .ret H ρ := fun ms a w ha hw => ⟨t, ms, h1, hw.sub h2⟩
theorem GE.round_exit {α σ τ : Type} {rel : List α → σ → Prop} {Hs : σ → Heap} {out : Code → List α → τ → Prop} {Hx : τ → Heap} {pre : List α} {id : Nat} (t : τ) (h1 : out (.exit id) pre t) (h2 : HSub (Hx t) H) : GE E (roundQ E rel Hs out Hx pre) (.exit id) H ρ := fun ms a w ha hw => ⟨t, ms, h1, hw.sub h2⟩
theorem Own.empk {ms : List Nat} {w : World} (h : Own E ms H w) (k : Nat) : Own E ms ((k, emp) :: H) w := h.more (Below.refl _ _) k _ trivial
theorem GC.empk {c : Code} (k : Nat) (h : GC E c Q ((k, emp) :: H) ρ) : GC E c Q H ρ := GC.imp (fun ms w hw => hw.empk k) h
end
end Go.Proofs.YtligejpfbcdpmaaDoor.Dv
