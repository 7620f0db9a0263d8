/- A small calculus of walks, over whatever program: a frame told by a partial table of slots, the call's own memory told by a table of assertions over disjoint blocks. No program in sight.
   No condition. -/
import Derived.Tactics2
import Derived.OrdersHeld
import Derived.Below
import Derived.Deep.LoopGhost
import Derived.OwnWalk
import Derived.KernelRfl
import Derived.Laws.Rows
import Derived.RangeFuncLeaves
namespace Go.Proofs.YtligejpfbcdpmaaDoor.Dv
set_option linter.unusedVariables false
open Go.RowKit

/-! ### slots -/
abbrev Regs := List (Nat × Value)
def look : Regs → Nat → Option Value
  | [], _ => none
  | (d, v) :: r, t => bif Nat.beq d t then some v else look r t
def ev (ρ : Regs) : Operand → Option Value
  | .tmp t => look ρ t
  | .const v => some v
  | .global g => some (.pointer (some ⟨g, 0, none⟩))
  | .func f => some (.func (.func f) #[] #[])
def evs (ρ : Regs) : List Operand → Option (List Value)
  | [] => some []
  | x :: xs => match ev ρ x, evs ρ xs with
    | some v, some vs => some (v :: vs)
    | _, _ => none
def putd (ρ : Regs) (d : Option Tmp) (v : Value) : Regs := match d with
  | some d => (d, v) :: ρ
  | none => ρ
/-- The table of the frame's slots, from slot i on. -/
def argRegs : List Value → Nat → Regs
  | [], _ => []
  | v :: vs, i => (i, v) :: argRegs vs (i + 1)

/-- The marks that loops over functions leave among the frame's deferred calls. -/
def marks (ms : List Nat) : List Deferred := ms.map fun m => { target := .collected m, args := #[] }
structure Agree (n : Nat) (D : List Nat) (a : Act) (ρ : Regs) : Prop where
  defers : a.defers = marks D
  size : a.tmps.size = n
  at_ : ∀ t v, look ρ t = some v → t < n ∧ a.tmps[t]? = some v

theorem look_cons (d : Nat) (v : Value) (ρ : Regs) (t : Nat) : look ((d, v) :: ρ) t = if d = t then some v else look ρ t := by
  show (bif Nat.beq d t then some v else look ρ t) = _
  by_cases h : d = t
  · subst h; simp
  · have : Nat.beq d t = false := by
      cases hb : Nat.beq d t with
      | false => rfl
      | true => exact absurd (Nat.eq_of_beq_eq_true hb) h
    simp [this, h]

theorem Agree.put {n : Nat} {D : List Nat} {a : Act} {ρ : Regs} (h : Agree n D a ρ) (d : Tmp) (hd : Nat.blt d n = true) (v : Value) : Agree n D (a.put (some d) v) ((d, v) :: ρ) := by
  have hd' : d < n := Nat.le_of_ble_eq_true hd
  refine ⟨h.defers, by simp [Act.put, h.size], fun t u ht => ?_⟩
  rw [look_cons] at ht
  by_cases e : d = t
  · subst e
    rw [if_pos rfl] at ht
    refine ⟨hd', ?_⟩
    simp only [Act.put]
    rw [Array.getElem?_setIfInBounds_self_of_lt (by rw [h.size]; exact hd')]
    exact ht
  · rw [if_neg e] at ht
    obtain ⟨h1, h2⟩ := h.at_ t u ht
    refine ⟨h1, ?_⟩
    simp only [Act.put]
    rw [Array.getElem?_setIfInBounds_ne e]
    exact h2

/-- The slot that an operation writes lies in the frame. -/
def okd (n : Nat) (d : Option Tmp) : Bool := match d with
  | some d => Nat.blt d n
  | none => true

theorem Agree.putd {n : Nat} {D : List Nat} {a : Act} {ρ : Regs} (h : Agree n D a ρ) {d : Option Tmp} (hd : okd n d = true) (v : Value) : Agree n D (a.put d v) (putd ρ d v) := by
  cases d with
  | none => exact h
  | some d => exact h.put d hd v

theorem Agree.eval {n : Nat} {D : List Nat} {a : Act} {ρ : Regs} (h : Agree n D a ρ) {x : Operand} {v : Value} (hx : ev ρ x = some v) : a.eval x = v := by
  cases x with
  | tmp t =>
    obtain ⟨_, h2⟩ := h.at_ t v hx
    simp [Act.eval, h2]
  | const u => exact Option.some.inj hx
  | global g => exact Option.some.inj hx
  | func f => exact Option.some.inj hx

theorem Agree.evals {n : Nat} {D : List Nat} {a : Act} {ρ : Regs} (h : Agree n D a ρ) : ∀ {xs : List Operand} {vs : List Value}, evs ρ xs = some vs → xs.map a.eval = vs
  | [], vs, hx => by simpa [evs] using hx
  | x :: xs, vs, hx => by
    unfold evs at hx
    cases h1 : ev ρ x with
    | none => rw [h1] at hx; cases hx
    | some v =>
      cases h2 : evs ρ xs with
      | none => rw [h1, h2] at hx; cases hx
      | some us =>
        rw [h1, h2] at hx
        rw [List.map_cons, h.eval h1, h.evals h2]
        exact Option.some.inj hx

/-- A smaller table. -/
def Sub (ρ ρ' : Regs) : Prop := ∀ t v, look ρ t = some v → look ρ' t = some v
theorem Sub.refl (ρ : Regs) : Sub ρ ρ := fun _ _ h => h
theorem Sub.nil (ρ : Regs) : Sub [] ρ := fun _ _ h => by cases h
theorem Sub.cons {ρ ρ' : Regs} {t : Nat} {v : Value} (h : look ρ' t = some v) (hs : Sub ρ ρ') : Sub ((t, v) :: ρ) ρ' := fun t' v' h' => by
  rw [look_cons] at h'
  by_cases e : t = t'
  · subst e; rw [if_pos rfl] at h'; rw [← h']; exact h
  · rw [if_neg e] at h'; exact hs t' v' h'
theorem Sub.cons' {ρ ρ' : Regs} {t : Nat} {v v' : Value} (h : look ρ' t = some v') (e : v' = v) (hs : Sub ρ ρ') : Sub ((t, v) :: ρ) ρ' := Sub.cons (e ▸ h) hs
theorem Agree.sub {n : Nat} {D : List Nat} {a : Act} {ρ ρ' : Regs} (h : Agree n D a ρ') (hs : Sub ρ ρ') : Agree n D a ρ := ⟨h.defers, h.size, fun t v ht => h.at_ t v (hs t v ht)⟩
/-- The table cut down to some slots. -/
def keep (ρ : Regs) : List Nat → Regs
  | [] => []
  | t :: ts => match look ρ t with
    | some v => (t, v) :: keep ρ ts
    | none => keep ρ ts
theorem Sub.keep (ρ : Regs) : ∀ ts, Sub (keep ρ ts) ρ
  | [] => Sub.nil ρ
  | t :: ts => by
    unfold Dv.keep
    cases h : look ρ t with
    | none => exact Sub.keep ρ ts
    | some v => exact Sub.cons h (Sub.keep ρ ts)

/-! ### memory of the call's own -/
structure Asrt where
  holds : (Nat → Prop) → World → Prop
  loc : ∀ S w w', (∀ b, S b → w'.heap[b]? = w.heap[b]?) → holds S w → holds S w'
  mono : ∀ S S' w, (∀ b, S b → S' b) → holds S w → holds S' w
abbrev Heap := List (Nat × Asrt)
def hlook : Heap → Nat → Option Asrt
  | [], _ => none
  | (d, v) :: r, t => bif Nat.beq d t then some v else hlook r t
theorem hlook_cons (d : Nat) (v : Asrt) (H : Heap) (t : Nat) : hlook ((d, v) :: H) t = if d = t then some v else hlook H t := by
  show (bif Nat.beq d t then some v else hlook H t) = _
  by_cases h : d = t
  · subst h; simp
  · have : Nat.beq d t = false := by
      cases hb : Nat.beq d t with
      | false => rfl
      | true => exact absurd (Nat.eq_of_beq_eq_true hb) h
    simp [this, h]

/-- Nothing said. -/
def emp : Asrt := ⟨fun _ _ => True, fun _ _ _ _ _ => trivial, fun _ _ _ _ _ => trivial⟩
/-- One block, known whole, of whatever kind. -/
def objA (b : Nat) (o : Obj) : Asrt := ⟨fun S w => S b ∧ w.heap[b]? = some o, fun S w w' h ⟨h1, h2⟩ => ⟨h1, by rw [h b h1]; exact h2⟩, fun S S' w h ⟨h1, h2⟩ => ⟨h b h1, h2⟩⟩
/-- One block of cells, known whole. -/
def box (b : Nat) (cs : Array Value) (T : TypeId) : Asrt := objA b (.cells cs T (0, 0))
/-- The blocks of the marks. -/
def marksA (ms : List Nat) : Asrt := ⟨fun S w => ms.Nodup ∧ ∀ m, m ∈ ms → S m ∧ w.heap[m]? = some (.deferred (some [])), fun S w w' h ⟨h1, h2⟩ => ⟨h1, fun m hm => ⟨(h2 m hm).1, by rw [h m (h2 m hm).1]; exact (h2 m hm).2⟩⟩, fun S S' w h ⟨h1, h2⟩ => ⟨h1, fun m hm => ⟨h m (h2 m hm).1, (h2 m hm).2⟩⟩⟩
/-- Two parts, disjoint. -/
def star (A B : Asrt) : Asrt :=
  ⟨fun S w => ∃ S1 S2 : Nat → Prop, (∀ b, S1 b → S b) ∧ (∀ b, S2 b → S b) ∧ (∀ b, S1 b → ¬ S2 b) ∧ A.holds S1 w ∧ B.holds S2 w,
   fun S w w' h ⟨S1, S2, h1, h2, h3, h4, h5⟩ => ⟨S1, S2, h1, h2, h3, A.loc S1 w w' (fun b hb => h b (h1 b hb)) h4, B.loc S2 w w' (fun b hb => h b (h2 b hb)) h5⟩,
   fun S S' w h ⟨S1, S2, h1, h2, h3, h4, h5⟩ => ⟨S1, S2, fun b hb => h b (h1 b hb), fun b hb => h b (h2 b hb), h3, h4, h5⟩⟩

/-- What a walk knows besides the slots: where the call's own memory begins, the world in which it began, the round of whose frame it is; what is kept aside. -/
structure Env where
  P : Program
  n : Nat
  R : Option Nat
  w0 : World
  base : Nat
  Z : Asrt

/-- The names of parts: the marks, what is kept aside, the table's. -/
inductive Nm where
  | marks
  | aside
  | at_ (k : Nat)
  deriving DecidableEq
def part (Z : Asrt) (ms : List Nat) (H : Heap) : Nm → Option Asrt
  | .marks => some (marksA ms)
  | .aside => some Z
  | .at_ k => hlook H k
def Lies (p : Nm → Option Asrt) (lo hi : Nat) (w : World) : Prop :=
  ∃ F : Nm → Nat → Prop, (∀ i j b, F i b → F j b → i = j) ∧ (∀ i b, F i b → lo ≤ b ∧ b < hi) ∧ ∀ i A, p i = some A → A.holds (F i) w

theorem Lies.weak {p q : Nm → Option Asrt} {lo hi : Nat} {w : World} (h : Lies p lo hi w) (hq : ∀ i A, q i = some A → ∃ B, p i = some B ∧ ∀ S, B.holds S w → A.holds S w) : Lies q lo hi w := by
  obtain ⟨F, f1, f2, f3⟩ := h
  exact ⟨F, f1, f2, fun i A hi => by obtain ⟨B, hb, hw⟩ := hq i A hi; exact hw _ (f3 i B hb)⟩
theorem Lies.grow {p : Nm → Option Asrt} {lo : Nat} {w w' : World} (h : Lies p lo w.heap.size w) (hb : Below w.heap.size w w') : Lies p lo w'.heap.size w' := by
  obtain ⟨F, f1, f2, f3⟩ := h
  exact ⟨F, f1, fun i b hi => ⟨(f2 i b hi).1, Nat.lt_of_lt_of_le (f2 i b hi).2 hb.size⟩, fun i A hi => A.loc _ w w' (fun b hs => hb.block b (f2 _ b hs).2) (f3 i A hi)⟩
/-- The blocks that came since. -/
def New (w w' : World) : Nat → Prop := fun b => w.heap.size ≤ b ∧ b < w'.heap.size
/-- One part is turned, and the blocks that have come are taken to it. -/
theorem Lies.turn {p q : Nm → Option Asrt} {lo : Nat} {w w' : World} (h : Lies p lo w.heap.size w) (hlo : lo ≤ w.heap.size) (hsz : w.heap.size ≤ w'.heap.size) (n : Nm)
    (hq : ∀ i, i ≠ n → q i = p i) (ht : ∀ S : Nat → Prop, (∀ A, p n = some A → A.holds S w) → (∀ b, S b → lo ≤ b ∧ b < w.heap.size) → (∀ b, b < w.heap.size → ¬ S b → w'.heap[b]? = w.heap[b]?) ∧ ∀ A, q n = some A → A.holds (fun b => S b ∨ New w w' b) w') :
    Lies q lo w'.heap.size w' ∧ ∀ b, b < lo → w'.heap[b]? = w.heap[b]? := by
  obtain ⟨F, f1, f2, f3⟩ := h
  obtain ⟨t1, t2⟩ := ht (F n) (fun A hA => f3 n A hA) (fun b hb => f2 n b hb)
  refine ⟨⟨fun i => if i = n then (fun b => F n b ∨ New w w' b) else F i, ?_, ?_, ?_⟩, fun b hb => t1 b (by omega) (fun hs => by have := (f2 n b hs).1; omega)⟩
  · intro i j b hi hj
    by_cases ei : i = n <;> by_cases ej : j = n
    · rw [ei, ej]
    · simp only [ei, if_true] at hi
      simp only [ej, if_false] at hj
      rcases hi with hi | hi
      · exact absurd (f1 n j b hi hj) (fun e => ej e.symm)
      · have := (f2 j b hj).2
        have := hi.1
        omega
    · simp only [ej, if_true] at hj
      simp only [ei, if_false] at hi
      rcases hj with hj | hj
      · exact absurd (f1 n i b hj hi) (fun e => ei e.symm)
      · have := (f2 i b hi).2
        have := hj.1
        omega
    · simp only [ei, if_false] at hi
      simp only [ej, if_false] at hj
      exact f1 i j b hi hj
  · intro i b hi
    by_cases ei : i = n
    · simp only [ei, if_true] at hi
      rcases hi with hi | hi
      · exact ⟨(f2 n b hi).1, Nat.lt_of_lt_of_le (f2 n b hi).2 hsz⟩
      · exact ⟨Nat.le_trans hlo hi.1, hi.2⟩
    · simp only [ei, if_false] at hi
      exact ⟨(f2 i b hi).1, Nat.lt_of_lt_of_le (f2 i b hi).2 hsz⟩
  · intro i A hi
    by_cases ei : i = n
    · subst ei
      simp only [if_true]
      exact t2 A hi
    · simp only [if_neg ei]
      rw [hq i ei] at hi
      exact A.loc _ w w' (fun b hs => t1 b (f2 i b hs).2 (fun hk => ei (f1 n i b hk hs).symm)) (f3 i A hi)
/-- Two parts become one. -/
theorem Lies.join {p q : Nm → Option Asrt} {lo hi : Nat} {w : World} (h : Lies p lo hi w) (n m : Nm) (hne : n ≠ m) {A B : Asrt} (hn : p n = some A) (hm : p m = some B)
    (hq : ∀ i, i ≠ n → i ≠ m → q i = p i) (hqn : q n = some (star A B)) (hqm : ∀ C, q m = some C → ∀ S, C.holds S w) : Lies q lo hi w := by
  obtain ⟨F, f1, f2, f3⟩ := h
  refine ⟨fun i => if i = n then (fun b => F n b ∨ F m b) else if i = m then (fun _ => False) else F i, ?_, ?_, ?_⟩
  · intro i j b hi hj
    have key : ∀ i, (if i = n then (fun b => F n b ∨ F m b) else if i = m then (fun _ => False) else F i) b → (i = n ∧ (F n b ∨ F m b)) ∨ (i ≠ n ∧ i ≠ m ∧ F i b) := by
      intro i hi
      by_cases e : i = n
      · rw [if_pos e] at hi; exact .inl ⟨e, hi⟩
      · rw [if_neg e] at hi
        by_cases e' : i = m
        · rw [if_pos e'] at hi; exact hi.elim
        · rw [if_neg e'] at hi; exact .inr ⟨e, e', hi⟩
    rcases key i hi with ⟨e, hi⟩ | ⟨e, e', hi⟩ <;> rcases key j hj with ⟨g, hj⟩ | ⟨g, g', hj⟩
    · rw [e, g]
    · rcases hi with hi | hi
      · exact absurd (f1 _ _ _ hj hi) g
      · exact absurd (f1 _ _ _ hj hi) g'
    · rcases hj with hj | hj
      · exact absurd (f1 _ _ _ hi hj) e
      · exact absurd (f1 _ _ _ hi hj) e'
    · exact f1 _ _ _ hi hj
  · intro i b hi
    by_cases e : i = n
    · simp only [e, if_true] at hi
      rcases hi with hi | hi <;> exact f2 _ _ hi
    · simp only [if_neg e] at hi
      by_cases e' : i = m
      · simp only [if_pos e'] at hi
      · simp only [if_neg e'] at hi; exact f2 _ _ hi
  · intro i C hi
    by_cases e : i = n
    · subst e
      rw [hqn] at hi
      simp only [if_true]
      rw [← Option.some.inj hi]
      exact ⟨F i, F m, fun _ h => .inl h, fun _ h => .inr h, fun b hb hb' => hne (f1 _ _ _ hb hb'), f3 _ _ hn, f3 _ _ hm⟩
    · simp only [if_neg e]
      by_cases e' : i = m
      · subst e'; exact hqm C hi _
      · simp only [if_neg e']
        rw [hq i e e'] at hi
        exact f3 i C hi
/-- One part becomes two; the other name's own part is let go. -/
theorem Lies.split {p q : Nm → Option Asrt} {lo hi : Nat} {w : World} (h : Lies p lo hi w) (n m : Nm) (hne : n ≠ m) {A B : Asrt} (hn : p n = some (star A B))
    (hq : ∀ i, i ≠ n → i ≠ m → q i = p i) (hqn : q n = some A) (hqm : q m = some B) : Lies q lo hi w := by
  obtain ⟨F, f1, f2, f3⟩ := h
  obtain ⟨S1, S2, s1, s2, s3, s4, s5⟩ := f3 n _ hn
  have key : ∀ i b, (if i = n then S1 else if i = m then S2 else F i) b → (i = n ∧ S1 b) ∨ (i = m ∧ S2 b) ∨ (i ≠ n ∧ i ≠ m ∧ F i b) := by
    intro i b hi
    by_cases e : i = n
    · rw [if_pos e] at hi; exact .inl ⟨e, hi⟩
    · rw [if_neg e] at hi
      by_cases e' : i = m
      · rw [if_pos e'] at hi; exact .inr (.inl ⟨e', hi⟩)
      · rw [if_neg e'] at hi; exact .inr (.inr ⟨e, e', hi⟩)
  refine ⟨fun i => if i = n then S1 else if i = m then S2 else F i, ?_, ?_, ?_⟩
  · intro i j b hi hj
    rcases key i b hi with ⟨e, hi⟩ | ⟨e, hi⟩ | ⟨e, e', hi⟩ <;> rcases key j b hj with ⟨g, hj⟩ | ⟨g, hj⟩ | ⟨g, g', hj⟩
    · rw [e, g]
    · exact absurd hj (s3 b hi)
    · exact absurd (f1 _ _ _ hj (s1 b hi)) g
    · exact absurd hi (s3 b hj)
    · rw [e, g]
    · exact absurd (f1 _ _ _ hj (s2 b hi)) g
    · exact absurd (f1 _ _ _ hi (s1 b hj)) e
    · exact absurd (f1 _ _ _ hi (s2 b hj)) e
    · exact f1 _ _ _ hi hj
  · intro i b hi
    rcases key i b hi with ⟨_, hi⟩ | ⟨_, hi⟩ | ⟨_, _, hi⟩
    · exact f2 n b (s1 b hi)
    · exact f2 n b (s2 b hi)
    · exact f2 i b hi
  · intro i C hi
    by_cases e : i = n
    · subst e
      rw [hqn] at hi
      simp only [if_true]
      rw [← Option.some.inj hi]
      exact s4
    · simp only [if_neg e]
      by_cases e' : i = m
      · subst e'
        rw [hqm] at hi
        simp only [if_true]
        rw [← Option.some.inj hi]
        exact s5
      · simp only [if_neg e']
        rw [hq i e e'] at hi
        exact f3 i C hi

structure Own (E : Env) (ms : List Nat) (H : Heap) (w : World) : Prop where
  below : Below E.base E.w0 w
  size : E.base ≤ w.heap.size
  lies : Lies (part E.Z ms H) E.base w.heap.size w

section
variable {E : Env} {H H' : Heap} {w w' : World} {ms : List Nat}

theorem Own.start (h : E.base ≤ E.w0.heap.size) (hZ : E.Z = emp) : Own E [] [] E.w0 := ⟨Below.refl _ _, h, fun _ _ => False, fun _ _ _ h => h.elim, fun _ _ h => h.elim, fun i A h => by
  cases i with
  | marks => cases h; exact ⟨List.nodup_nil, fun _ h => by cases h⟩
  | aside => rw [part, hZ] at h; cases h; trivial
  | at_ k => cases h⟩

def HSub (H H' : Heap) : Prop := ∀ k A, hlook H k = some A → hlook H' k = some A
theorem HSub.refl (H : Heap) : HSub H H := fun _ _ h => h
theorem HSub.nil (H : Heap) : HSub [] H := fun _ _ h => by cases h
theorem HSub.cons {k : Nat} {A : Asrt} (h : hlook H' k = some A) (hs : HSub H H') : HSub ((k, A) :: H) H' := fun k' A' h' => by
  rw [hlook_cons] at h'
  by_cases e : k = k'
  · subst e; rw [if_pos rfl] at h'; rw [← h']; exact h
  · rw [if_neg e] at h'; exact hs k' A' h'
theorem HSub.cons' {k : Nat} {A A' : Asrt} (h : hlook H' k = some A') (e : A' = A) (hs : HSub H H') : HSub ((k, A) :: H) H' := HSub.cons (e ▸ h) hs
theorem HSub.trans {H1 H2 H3 : Heap} (h : HSub H1 H2) (h' : HSub H2 H3) : HSub H1 H3 := fun k A hk => h' k A (h k A hk)
theorem Own.sub (h : Own E ms H' w) (hs : HSub H H') : Own E ms H w :=
  ⟨h.below, h.size, h.lies.weak fun i A hi => by
    cases i with
    | marks => exact ⟨A, hi, fun _ h => h⟩
    | aside => exact ⟨A, hi, fun _ h => h⟩
    | at_ k => exact ⟨A, hs k A hi, fun _ h => h⟩⟩

/-- Nothing that was there has turned: new blocks alone. -/
theorem Own.grow (h : Own E ms H w) (hb : Below w.heap.size w w') : Own E ms H w' := ⟨h.below.trans (hb.mono h.size), Nat.le_trans h.size hb.size, h.lies.grow hb⟩

/-- New blocks, and what is said of them, under a name. -/
theorem Own.more (h : Own E ms H w) (hb : Below w.heap.size w w') (k : Nat) (A : Asrt) (hA : A.holds (New w w') w') : Own E ms ((k, A) :: H) w' := by
  obtain ⟨h1, h2, F, f1, f2, f3⟩ := h
  refine ⟨h1.trans (hb.mono h2), Nat.le_trans h2 hb.size, fun i => if i = .at_ k then New w w' else F i, ?_, ?_, ?_⟩
  · intro i j b hi hj
    by_cases ei : i = .at_ k <;> by_cases ej : j = .at_ k
    · rw [ei, ej]
    · simp only [ei, if_true] at hi
      simp only [ej, if_false] at hj
      have := (f2 j b hj).2
      have := hi.1
      omega
    · simp only [ej, if_true] at hj
      simp only [ei, if_false] at hi
      have := (f2 i b hi).2
      have := hj.1
      omega
    · simp only [ei, if_false] at hi
      simp only [ej, if_false] at hj
      exact f1 i j b hi hj
  · intro i b hi
    by_cases ei : i = .at_ k
    · simp only [ei, if_true] at hi
      exact ⟨Nat.le_trans h2 hi.1, hi.2⟩
    · simp only [ei, if_false] at hi
      exact ⟨(f2 i b hi).1, Nat.lt_of_lt_of_le (f2 i b hi).2 hb.size⟩
  · intro i A' hi
    by_cases ei : i = .at_ k
    · subst ei
      simp only [part, hlook_cons, if_true] at hi
      simp only [if_true]
      rw [← Option.some.inj hi]
      exact hA
    · simp only [if_neg ei]
      have hi' : part E.Z ms H i = some A' := by
        cases i with
        | marks => exact hi
        | aside => exact hi
        | at_ k' =>
          simp only [part, hlook_cons] at hi
          rw [if_neg (fun e => ei (by rw [e]))] at hi
          exact hi
      exact A'.loc _ w w' (fun b hs => hb.block b (f2 _ b hs).2) (f3 i A' hi')

theorem part_cons {Z : Asrt} {k : Nat} {A : Asrt} (i : Nm) (hi : i ≠ .at_ k) : part Z ms ((k, A) :: H) i = part Z ms H i := by
  cases i with
  | marks => rfl
  | aside => rfl
  | at_ k' => simp only [part, hlook_cons]; rw [if_neg (fun e => hi (by rw [e]))]
theorem part_same {Z : Asrt} {k : Nat} {A : Asrt} : part Z ms ((k, A) :: H) (.at_ k) = some A := by simp only [part, hlook_cons, if_true]

/-- One name's part is turned, and blocks may have come that are taken to it: all else lies as it lay. -/
theorem Own.turn (h : Own E ms H w) {k : Nat} {A A' : Asrt} (hk : hlook H k = some A) (hsz : w.heap.size ≤ w'.heap.size) (hos : w'.os = w.os) (htape : w'.tape = w.tape) (hout : w'.output = w.output)
    (ht : ∀ S, A.holds S w → (∀ b, S b → b < w.heap.size) → (∀ b, b < w.heap.size → ¬ S b → w'.heap[b]? = w.heap[b]?) ∧ A'.holds (fun b => S b ∨ New w w' b) w') : Own E ms ((k, A') :: H) w' := by
  obtain ⟨h1, h2⟩ := h.lies.turn (q := part E.Z ms ((k, A') :: H)) (w' := w') h.size hsz (.at_ k) (fun i hi => part_cons i hi) (fun S hS hb => by
    obtain ⟨t1, t2⟩ := ht S (hS A hk) (fun b hb' => (hb b hb').2)
    exact ⟨t1, fun B hB => by rw [part_same] at hB; rw [← Option.some.inj hB]; exact t2⟩)
  exact ⟨h.below.trans ⟨hos, htape, hout, hsz, h2⟩, Nat.le_trans h.size hsz, h1⟩

/-- What is kept aside is turned. -/
theorem Own.turnZ {Z' : Asrt} (h : Own E ms H w) (hsz : w.heap.size ≤ w'.heap.size) (hos : w'.os = w.os) (htape : w'.tape = w.tape) (hout : w'.output = w.output)
    (ht : ∀ S, E.Z.holds S w → (∀ b, S b → b < w.heap.size) → (∀ b, b < w.heap.size → ¬ S b → w'.heap[b]? = w.heap[b]?) ∧ Z'.holds (fun b => S b ∨ New w w' b) w') : Own { E with Z := Z' } ms H w' := by
  obtain ⟨h1, h2⟩ := h.lies.turn (q := part Z' ms H) (w' := w') h.size hsz .aside (fun i hi => by cases i <;> first | rfl | exact absurd rfl hi) (fun S hS hb => by
    obtain ⟨t1, t2⟩ := ht S (hS E.Z rfl) (fun b hb' => (hb b hb').2)
    exact ⟨t1, fun B hB => by rw [← Option.some.inj hB]; exact t2⟩)
  exact ⟨h.below.trans ⟨hos, htape, hout, hsz, h2⟩, Nat.le_trans h.size hsz, h1⟩

/-- What a name says, in the world at hand. -/
theorem Own.get (h : Own E ms H w) {k : Nat} {A : Asrt} (hk : hlook H k = some A) : ∃ S : Nat → Prop, (∀ b, S b → E.base ≤ b ∧ b < w.heap.size) ∧ A.holds S w := by
  obtain ⟨_, _, F, _, f2, f3⟩ := h
  exact ⟨F (.at_ k), fun b hb => f2 _ b hb, f3 _ A hk⟩
theorem Own.getZ (h : Own E ms H w) : ∃ S : Nat → Prop, (∀ b, S b → E.base ≤ b ∧ b < w.heap.size) ∧ E.Z.holds S w := by
  obtain ⟨_, _, F, _, f2, f3⟩ := h
  exact ⟨F .aside, fun b hb => f2 _ b hb, f3 _ E.Z rfl⟩

/-- What a name says, of the blocks that came since. -/
theorem Own.new {w0 : World} (h : Own E ms H w) {k : Nat} {A : Asrt} (hk : hlook H k = some A) (hb : E.base = w0.heap.size) : A.holds (New w0 w) w := by
  obtain ⟨S, hS, hA⟩ := h.get hk
  exact A.mono S _ w (fun b hb' => by have := hS b hb'; exact ⟨by omega, this.2⟩) hA
/-- A name's assertion may be weakened. -/
theorem Own.weak (h : Own E ms H w) {k : Nat} {A A' : Asrt} (hk : hlook H k = some A) (hw : ∀ S, A.holds S w → A'.holds S w) : Own E ms ((k, A') :: H) w :=
  ⟨h.below, h.size, h.lies.weak fun i B hi => by
    by_cases e : i = .at_ k
    · subst e
      rw [part_same] at hi
      rw [← Option.some.inj hi]
      exact ⟨A, hk, hw⟩
    · rw [part_cons i e] at hi
      exact ⟨B, hi, fun _ h => h⟩⟩
/-- All but one name. -/
def hdrop (k : Nat) (H : Heap) : Heap := H.filter fun p => !Nat.beq p.1 k
theorem hlook_hdrop (k i : Nat) (H : Heap) : hlook (hdrop k H) i = if i = k then none else hlook H i := by
  induction H with
  | nil => simp [hdrop, hlook]
  | cons p H ih =>
    obtain ⟨d, A⟩ := p
    unfold hdrop at ih ⊢
    rw [List.filter_cons]
    by_cases e : d = k
    · subst e
      rw [if_neg (by simp), ih, hlook_cons]
      by_cases e2 : i = d
      · simp [e2]
      · rw [if_neg e2, if_neg e2, if_neg (fun h => e2 h.symm)]
    · have hb : Nat.beq d k = false := by
        cases hb : Nat.beq d k with
        | false => rfl
        | true => exact absurd (Nat.eq_of_beq_eq_true hb) e
      rw [if_pos (by simp only [hb]; rfl), hlook_cons, hlook_cons, ih]
      by_cases e2 : d = i
      · subst e2; simp [e]
      · simp [e2]
theorem part_hdrop {Z : Asrt} {k : Nat} (i : Nm) (hi : i ≠ .at_ k) : part Z ms (hdrop k H) i = part Z ms H i := by
  cases i with
  | marks => rfl
  | aside => rfl
  | at_ k' => simp only [part, hlook_hdrop]; rw [if_neg (fun e => hi (by rw [e]))]
/-- Two names' parts under one name; the other name is gone. -/
theorem Own.join (h : Own E ms H w) {k k' : Nat} {A B : Asrt} (hne : k ≠ k') (hk : hlook H k = some A) (hk' : hlook H k' = some B) : Own E ms ((k, star A B) :: hdrop k' H) w :=
  ⟨h.below, h.size, h.lies.join (.at_ k) (.at_ k') (fun e => hne (by cases e; rfl)) hk hk' (fun i h1 h2 => by rw [part_cons i h1, part_hdrop i h2]) part_same (fun C hC => by
    rw [part_cons _ (fun e => hne (by cases e; rfl))] at hC
    simp only [part, hlook_hdrop, if_true] at hC
    cases hC)⟩
/-- A name's part is laid aside. -/
theorem Own.lay (h : Own E ms H w) {k : Nat} {A : Asrt} (hk : hlook H k = some A) : Own { E with Z := star E.Z A } ms (hdrop k H) w :=
  ⟨h.below, h.size, h.lies.join (q := part (star E.Z A) ms (hdrop k H)) .aside (.at_ k) (fun e => by cases e) rfl hk (fun i h1 h2 => by
    rw [part_hdrop i h2]
    cases i <;> first | rfl | exact absurd rfl h1) rfl (fun C hC => by
    simp only [part, hlook_hdrop, if_true] at hC
    cases hC)⟩
/-- What was laid aside comes back, under whatever name. -/
theorem Own.unlay {Z A : Asrt} (h : Own { E with Z := star Z A } ms H w) (k : Nat) : Own { E with Z := Z } ms ((k, A) :: H) w :=
  ⟨h.below, h.size, h.lies.split (q := part Z ms ((k, A) :: H)) .aside (.at_ k) (fun e => by cases e) rfl (fun i h1 h2 => by
    rw [part_cons i h2]
    cases i <;> first | rfl | exact absurd rfl h1) rfl part_same⟩
/-- The marks are laid aside. -/
theorem Own.layMarks (h : Own E ms H w) : Own { E with Z := star E.Z (marksA ms) } [] H w :=
  ⟨h.below, h.size, h.lies.join (q := part (star E.Z (marksA ms)) [] H) .aside .marks (fun e => by cases e) rfl rfl (fun i h1 h2 => by
    cases i <;> first | rfl | exact absurd rfl h1 | exact absurd rfl h2) rfl (fun C hC S => by
    rw [← Option.some.inj hC]
    exact ⟨List.nodup_nil, fun _ h => by cases h⟩)⟩
theorem Own.unlayMarks {Z : Asrt} {ms' : List Nat} (h : Own { E with Z := star Z (marksA ms) } ms' H w) : Own { E with Z := Z } ms H w :=
  ⟨h.below, h.size, h.lies.split (q := part Z ms H) .aside .marks (fun e => by cases e) rfl (fun i h1 h2 => by
    cases i <;> first | rfl | exact absurd rfl h1 | exact absurd rfl h2) rfl rfl⟩
end

/-! ### operations, in whatever order -/
def fence : Option Nat → Fence
  | none => Fence.wide
  | some l => Fence.wide.inRound l
theorem fence_fn (r : Option Nat) (f : FuncId) : (fence r).fn f := by cases r <;> trivial
theorem fence_depth (r : Option Nat) : (fence r).depth = none := by cases r <;> rfl
theorem fence_round (r : Option Nat) : (fence r).round = r := by cases r <;> rfl
theorem fence_calls {r : Option Nat} {n : Nat} {P : Program} {f : FuncId} {args : Array Value} {w : World} {R : Ending → World → Prop} (h : Calls P f args w R) : CallsIn (fence r) n P f args w R := by
  cases r with
  | none => exact callsIn_wide.2 h
  | some l => exact (callsIn_wide (n := n)).2 h
theorem fence_calls' {r : Option Nat} {n : Nat} {P : Program} {f : FuncId} {args : Array Value} {w : World} {R : Ending → World → Prop} (h : CallsIn (fence r) n P f args w R) : Calls P f args w R := by
  cases r with
  | none => exact callsIn_wide.1 h
  | some l => exact (callsIn_wide (n := n)).1 h
theorem fence_roundIn {r : Option Nat} {n : Nat} {P : Program} {l : Nat} {f : FuncId} {tmps : Array Value} {assign body : Code} {w : World} {R : Ending → World → Prop} (h : RoundIn Fence.wide n P l f tmps assign body w R) : RoundIn (fence r) n P l f tmps assign body w R := by
  cases r with
  | none => exact h
  | some l => exact h

/-- One operation, carried out: it ends as it should, and K holds behind it. -/
def opW (P : Program) (o : Oper) (a : Act) (w : World) (K : Act → World → Prop) : Prop :=
  match (execOp a.eval o).run P w with
  | .ok (.value v) w' => K (a.put o.dst v) w'
  | .ok .skip w' => K (a.put o.dst undef) w'
  | .ok (.enter f args) w' => Calls P f args w' fun e w'' => ∃ v, e = .returned v ∧ K (a.put o.dst v) w''
  | .ok (.round l f tmps assign body) w' => RoundIn Fence.wide 0 P l f tmps assign body w' fun e w'' => ∃ v, e = .returned v ∧ K (a.put o.dst v) w''
  | _ => False
theorem opW_mono {P : Program} {o : Oper} {a : Act} {w : World} {K K' : Act → World → Prop} (hk : ∀ a w, K a w → K' a w) (h : opW P o a w K) : opW P o a w K' := by
  unfold opW at h ⊢
  generalize (execOp a.eval o).run P w = r at h ⊢
  cases r with
  | halt x w' => exact h
  | ok nx w' =>
    cases nx <;> simp only at h ⊢ <;>
      first
        | exact h
        | exact hk _ _ h
        | exact Calls.mono h (fun e w'' ⟨v, h1, h2⟩ => ⟨v, h1, hk _ _ h2⟩)
        | exact RoundIn.mono h (fun e w'' ⟨v, h1, h2⟩ => ⟨v, h1, hk _ _ h2⟩)
theorem opW_in {P : Program} {o : Oper} {a : Act} {w : World} {K : Act → World → Prop} {Q : Exit → Act → World → Prop} (r : Option Nat) (hnd : ∀ c, o.op ≠ .defer c) (h : opW P o a w K) : o.wpIn (fence r) 0 P a w K Q := by
  refine ⟨fun f _ => fence_fn r f, ?_⟩
  rw [fence_round, Oper.semAt_eq _ _ _ hnd]
  unfold opW at h
  have hd : (fence r).depth.isSome = true → 1 ≤ 0 := fun e => by rw [fence_depth] at e; cases e
  generalize (execOp a.eval o).run P w = x at h ⊢
  cases x with
  | halt y w' => exact h.elim
  | ok nx w' =>
    cases nx with
    | value v => exact h
    | skip => exact h
    | enter f args => exact ⟨hd, fence_calls (Calls.mono h fun e w'' ⟨v, h1, h2⟩ => by subst h1; exact h2)⟩
    | round l f tmps assign body => exact ⟨hd, fence_roundIn (RoundIn.mono h fun e w'' ⟨v, h1, h2⟩ => by subst h1; exact h2)⟩
    | _ => exact h.elim

def stepW (P : Program) (ops : Array Oper) (i : Nat) (K : Act → World → Prop) (a : Act) (w : World) : Prop :=
  match ops[i]? with
  | none => K a w
  | some o => if Region.wanted o (yielded ops a.tmps) then opW P o a w K else K (a.put o.dst undef) w
theorem stepW_mono {P : Program} {ops : Array Oper} {i : Nat} {a : Act} {w : World} {K K' : Act → World → Prop} (hk : ∀ a w, K a w → K' a w) (h : stepW P ops i K a w) : stepW P ops i K' a w := by
  unfold stepW at h ⊢
  split at h
  · exact hk _ _ h
  · split at h
    · rename_i hw; rw [if_pos hw]; exact opW_mono hk h
    · rename_i hw; rw [if_neg hw]; exact hk _ _ h
def idxW (P : Program) (ops : Array Oper) (K : Act → World → Prop) : List Nat → Act → World → Prop
  | [], a, w => K a w
  | i :: rest, a, w => stepW P ops i (idxW P ops K rest) a w
def ndL : List Oper → Bool
  | [] => true
  | o :: r => match o.op with
    | .defer _ => false
    | _ => ndL r
def noDefer (ops : Array Oper) : Bool := ndL ops.toList
theorem ndL_spec : ∀ {l : List Oper}, ndL l = true → ∀ o ∈ l, ∀ c, o.op ≠ .defer c
  | [], _, o, ho => by cases ho
  | x :: r, h, o, ho => by
    intro c e
    unfold ndL at h
    cases hx : x.op <;> rw [hx] at h <;> simp only at h <;> first
      | (cases h; done)
      | (cases ho with
         | head => rw [hx] at e; cases e
         | tail _ hm => exact ndL_spec h o hm c e)
theorem noDefer_spec {ops : Array Oper} (h : noDefer ops = true) {j : Nat} {o : Oper} (ho : ops[j]? = some o) (c : Call) : o.op ≠ .defer c :=
  ndL_spec h o (Array.mem_toList_iff.2 (Array.mem_of_getElem? ho)) c
theorem idxW_in {P : Program} {ops : Array Oper} {K : Act → World → Prop} {Q : Exit → Act → World → Prop} (r : Option Nat) (hd : noDefer ops = true) (hK : ∀ a w, K a w → Q .normal a w) : ∀ (l : List Nat) (a : Act) (w : World), idxW P ops K l a w → wpOpsIn (fence r) 0 P ops Q l a w
  | [], a, w, h => hK a w h
  | i :: rest, a, w, h => by
    unfold idxW stepW at h
    unfold wpOpsIn
    split
    · rename_i hn; rw [hn] at h; exact idxW_in r hd hK rest a w h
    · rename_i o ho
      rw [ho] at h
      simp only at h
      split
      · rename_i hw
        rw [if_pos hw] at h
        exact opW_in r (noDefer_spec hd ho) (opW_mono (fun a w => idxW_in r hd hK rest a w) h)
      · rename_i hw
        rw [if_neg hw] at h
        exact ⟨fun f _ => fence_fn r f, idxW_in r hd hK rest _ w h⟩
/-- The operations in the order of the text. -/
def listW (P : Program) (ops : Array Oper) (K : Act → World → Prop) : List Oper → Act → World → Prop
  | [], a, w => K a w
  | o :: rest, a, w => if Region.wanted o (yielded ops a.tmps) then opW P o a w (listW P ops K rest) else listW P ops K rest (a.put o.dst undef) w
theorem idxW_list {P : Program} {ops : Array Oper} {K : Act → World → Prop} (l : List Oper) : ∀ k, (∀ j, l[j]? = ops[k + j]?) → idxW P ops K (List.range' k l.length) = listW P ops K l := by
  induction l with
  | nil => intro k _; rfl
  | cons o l ih =>
    intro k h
    have h0 : ops[k]? = some o := by simpa using (h 0).symm
    have ih' := ih (k + 1) (fun j => by have := h (j + 1); simpa [Nat.add_assoc, Nat.add_comm 1 j] using this)
    funext a w
    simp only [List.length_cons, List.range'_succ, idxW, stepW, h0, listW, ih']
theorem wpIn_regionW {P : Program} {id : Nat} {l : List Oper} {Q : Exit → Act → World → Prop} {a : Act} {w : World} (r : Option Nat) (hd : noDefer l.toArray = true) (h : listW P l.toArray (Q .normal) l a w) : (Code.region id l.toArray false).wpIn (fence r) 0 P Q a w := by
  refine wpIn_region (idxW_in r hd (K := Q .normal) (fun _ _ h => h) _ a w ?_)
  have e := idxW_list (P := P) (ops := l.toArray) (K := Q .normal) l 0 (fun j => by simp)
  rw [← List.range_eq_range'] at e
  rw [List.size_toArray, e]
  exact h

section
variable {P : Program} {ops : Array Oper} {K : Act → World → Prop} {S : Array Bool → World → Prop} {S0 : World → Prop}
/-- Whatever order is picked from here on; S holds behind every operation, of what is then listed. -/
def anyW (P : Program) (ops : Array Oper) (S : Array Bool → World → Prop) (K : Act → World → Prop) : Nat → Array Bool → Act → World → Prop
  | 0, listed, a, w => Region.ready .any ops listed = [] ∧ K a w
  | fuel + 1, listed, a, w => (Region.ready .any ops listed = [] → K a w) ∧
    ∀ i ∈ Region.ready .any ops listed, stepW P ops i (fun a' w' => S (listed.setIfInBounds i true) w' ∧ anyW P ops S K fuel (listed.setIfInBounds i true) a' w') a w
theorem anyW_sound : ∀ (fuel t : Nat) (listed : Array Bool) (a : Act) (w : World), anyW P ops S K fuel listed a w → idxW P ops K (Region.linearise.go .any ops fuel t listed []) a w := by
  intro fuel
  induction fuel with
  | zero => intro t listed a w h; simpa [Region.linearise.go, idxW] using h.2
  | succ fuel ih =>
    intro t listed a w h
    obtain ⟨h0, h1⟩ := h
    simp only [Region.linearise.go]
    change idxW P ops K (match (Region.ready .any ops listed)[t % (Region.ready .any ops listed).length]? with
      | some i => Region.linearise.go .any ops fuel (t / (Region.ready .any ops listed).length) (listed.setIfInBounds i true) [i]
      | none => [].reverse) a w
    cases hi : (Region.ready .any ops listed)[t % (Region.ready .any ops listed).length]? with
    | none =>
      have hnil : Region.ready .any ops listed = [] := by
        cases hr : Region.ready .any ops listed with
        | nil => rfl
        | cons x xs =>
          rw [hr] at hi
          have hlt : t % (x :: xs).length < (x :: xs).length := Nat.mod_lt _ (by simp)
          rw [List.getElem?_eq_getElem hlt] at hi
          cases hi
      simpa [idxW] using h0 hnil
    | some i =>
      simp only []
      rw [linearise_go_acc, List.reverse_singleton, List.singleton_append]
      exact stepW_mono (fun a w hh => ih _ _ a w hh.2) (h1 i (List.mem_of_getElem? hi))
theorem yi_step {i : Nat} {o : Oper} {v : Value} {a : Act} (hi : ops[i]? = some o) (hy : YieldsIf P ops S0 o v a) {w : World} (hS : S0 w) (h : K (a.put o.dst v) w) : stepW P ops i K a w := by
  unfold stepW
  rw [hi]
  simp only
  rcases hy with ⟨hw, hv⟩ | ⟨hw, rfl⟩
  · rw [if_pos hw]; unfold opW; rw [hv w hS]; exact h
  · rw [if_neg (by rw [hw]; simp)]; exact h
theorem stepW_put {j : Nat} {oi oj : Oper} {v : Value} (hj : ops[j]? = some oj) (hap : oi.apart ops oj = true) (hsi : ∀ cs b, oi.op ≠ .select cs b) (hsj : ∀ cs b, oj.op ≠ .select cs b)
    {a : Act} {w : World} (hy : YieldsIf P ops S0 oi v a) (h : stepW P ops j K (a.put oi.dst v) w) : stepW P ops j (fun a' w' => YieldsIf P ops S0 oi v a' ∧ K (a'.put oi.dst v) w') a w := by
  obtain ⟨h1, h2, h3⟩ := Oper.apart_spec hap
  have keep : ∀ (a : Act), YieldsIf P ops S0 oi v a → ∀ u, YieldsIf P ops S0 oi v (a.put oj.dst u) := fun a hy u =>
    hy.of_same (execOp_put oi hsi a oj.dst u h3) (wanted_put oi a oj.dst u h3)
  unfold stepW at *
  simp only [hj] at *
  rw [wanted_put oj a oi.dst v h1] at h
  split
  · rename_i hw
    rw [if_pos hw] at h
    unfold opW at *
    rw [execOp_put oj hsj a oi.dst v h1] at h
    generalize (execOp a.eval oj).run P w = r at *
    cases r with
    | halt x w' => exact h
    | ok nx w' =>
      cases nx with
      | value u => exact ⟨keep a hy u, by rw [← Act.put_comm a v u h2]; exact h⟩
      | skip => exact ⟨keep a hy _, by rw [← Act.put_comm a v undef h2]; exact h⟩
      | enter f args => exact Calls.mono h fun e w'' ⟨u, e1, h4⟩ => ⟨u, e1, keep a hy u, by rw [← Act.put_comm a v u h2]; exact h4⟩
      | round l f tmps assign body => exact RoundIn.mono h fun e w'' ⟨u, e1, h4⟩ => ⟨u, e1, keep a hy u, by rw [← Act.put_comm a v u h2]; exact h4⟩
      | _ => exact h
  · rename_i hw
    rw [if_neg hw] at h
    exact ⟨keep a hy _, by rw [← Act.put_comm a v undef h2]; exact h⟩
theorem anyW_first {i : Nat} {oi : Oper} {v : Value} (Good : Array Bool → Prop) (hi : ops[i]? = some oi) (hsel : ∀ (j : Nat) (o : Oper) cs b, ops[j]? = some o → o.op ≠ .select cs b)
    (hstep : ∀ l j, Good l → l.getD i true = false → j ∈ Region.ready .any ops l → j ≠ i → Good (l.setIfInBounds j true)) (hback : ∀ l w, Good l → S (l.setIfInBounds i true) w → S l w) (hS0 : ∀ l w, Good l → S l w → S0 w) :
    ∀ (fuel : Nat) (listed : Array Bool) (a : Act) (w : World), Good listed →
      (∀ j oj, ops[j]? = some oj → j ≠ i → listed.getD j true = false → (∀ e ∈ oj.after, Region.binds .any e = true → e.on ≠ i) → oi.apart ops oj = true) →
      i ∈ Region.ready .any ops listed → YieldsIf P ops S0 oi v a → S0 w → S (listed.setIfInBounds i true) w →
      anyW P ops S K fuel (listed.setIfInBounds i true) (a.put oi.dst v) w → anyW P ops S K (fuel + 1) listed a w := by
  intro fuel
  induction fuel with
  | zero =>
    intro listed a w _ _ hr hy hS hS' H
    refine ⟨fun h => (by rw [h] at hr; cases hr), fun j hj => ?_⟩
    by_cases hji : j = i
    · subst hji; exact yi_step hi hy hS ⟨hS', H⟩
    · have := ready_mono hj hji
      rw [H.1] at this
      cases this
  | succ fuel ih =>
    intro listed a w hg hfree hr hy hS hS' H
    refine ⟨fun h => (by rw [h] at hr; cases hr), fun j hj => ?_⟩
    by_cases hji : j = i
    · subst hji; exact yi_step hi hy hS ⟨hS', H⟩
    · have h1 := H.2 j (ready_mono hj hji)
      obtain ⟨hjun, oj, hoj, hall⟩ := mem_ready.1 hj
      have hnot : ∀ e ∈ oj.after, Region.binds .any e = true → e.on ≠ i := fun e he hb heq => by
        have h1 := hall e he hb
        have h0 := (mem_ready.1 hr).1
        rw [heq] at h1
        rcases Nat.lt_or_ge i listed.size with h' | h'
        · simp [h'] at h0 h1; rw [h0] at h1; cases h1
        · simp [Array.getElem?_eq_none h'] at h1
      have h2 := stepW_put hoj (hfree j oj hoj hji hjun hnot) (fun cs b => hsel i oi cs b hi) (fun cs b => hsel j oj cs b hoj) hy h1
      have hfree' : ∀ k ok, ops[k]? = some ok → k ≠ i → (listed.setIfInBounds j true).getD k true = false →
          (∀ e ∈ ok.after, Region.binds .any e = true → e.on ≠ i) → oi.apart ops ok = true := fun k ok hk hki hun hno => by
        refine hfree k ok hk hki ?_ hno
        by_cases hjk : j = k
        · subst hjk; exact hjun
        · rw [getD_set_ne true hjk] at hun; exact hun
      have hg' := hstep listed j hg (mem_ready.1 hr).1 hj hji
      refine stepW_mono (fun a' w' h3 => ?_) h2
      obtain ⟨h4, h5, h6⟩ := h3
      rw [Array.setIfInBounds_comm _ _ (Ne.symm hji)] at h5 h6
      have h7 := hback _ _ hg' h5
      exact ⟨h7, ih (listed.setIfInBounds j true) a' w' hg' hfree' (ready_mono hr (Ne.symm hji)) h4 (hS0 _ _ hg' h7) h5 h6⟩
theorem wpIn_drawW {P : Program} {id : Nat} {ops : Array Oper} {S : Array Bool → World → Prop} {Q : Exit → Act → World → Prop} {a : Act} {w : World} (r : Option Nat) (hm : P.follows .mixedOrders = true) (hd : noDefer ops = true)
    (h : anyW P ops S (Q .normal) ops.size (Array.replicate ops.size false) a { w with drawn := w.drawn + 1 }) : (Code.region id ops true).wpIn (fence r) 0 P Q a w :=
  wpIn_region_draw fun t => idxW_in r hd (K := Q .normal) (fun _ _ h => h) _ a _ (by
    simp only [Region.schedule, hm, Bool.true_or, if_true]
    exact anyW_sound ops.size t _ a _ h)
end

/-! ### the walk's goals -/
def GK (E : Env) (K : Act → World → Prop) (H : Heap) (ρ : Regs) : Prop := ∀ ms a w, Agree E.n ms a ρ → Own E ms H w → K a w
abbrev cW (E : Env) (c : Code) (Q : Exit → Act → World → Prop) (a : Act) (w : World) : Prop := c.wpIn (fence E.R) 0 E.P Q a w
def GC (E : Env) (c : Code) (Q : Exit → Act → World → Prop) (H : Heap) (ρ : Regs) : Prop := ∀ ms a w, Agree E.n ms a ρ → Own E ms H w → cW E c Q a w
def GE (E : Env) (Q : Exit → Act → World → Prop) (e : Exit) (H : Heap) (ρ : Regs) : Prop := ∀ ms a w, Agree E.n ms a ρ → Own E ms H w → Q e a w
def GL (E : Env) (ops : Array Oper) (l : List Oper) (Q : Exit → Act → World → Prop) (H : Heap) (ρ : Regs) : Prop := ∀ ms a w, Agree E.n ms a ρ → Own E ms H w → listW E.P ops (Q .normal) l a w
def GO (E : Env) (o : Oper) (K : Act → World → Prop) (H : Heap) (ρ : Regs) : Prop := ∀ ms a w, Agree E.n ms a ρ → Own E ms H w → opW E.P o a w K
/-- An operation that only leaves a value. -/
def Yl (E : Env) (H : Heap) (ρ : Regs) (op : Op) (v : Value) : Prop := ∀ (ms : List Nat) (a : Act) (w : World) (d : Option Tmp) (t : TypeId) (pos : String) (after : Array Edge) (g : Option (Nat × Bool)), Agree E.n ms a ρ → (∃ ms, Own E ms H w) → (execOp a.eval ⟨d, op, t, pos, after, g⟩).run E.P w = .ok (.value v) w

section
variable {E : Env} {H H' : Heap} {ρ ρ' : Regs} {Q : Exit → Act → World → Prop} {K : Act → World → Prop}

theorem GC.sub {c : Code} (h : GC E c Q H' ρ') (hr : Sub ρ' ρ) (hh : HSub H' H) : GC E c Q H ρ := fun ms a w ha hw => h ms a w (ha.sub hr) (hw.sub hh)
theorem GK.sub (h : GK E K H' ρ') (hr : Sub ρ' ρ) (hh : HSub H' H) : GK E K H ρ := fun ms a w ha hw => h ms a w (ha.sub hr) (hw.sub hh)
theorem GE.sub {e : Exit} (h : GE E Q e H' ρ') (hr : Sub ρ' ρ) (hh : HSub H' H) : GE E Q e H ρ := fun ms a w ha hw => h ms a w (ha.sub hr) (hw.sub hh)
/-- What is said of memory may be told otherwise. -/
theorem GC.imp {c : Code} (hh : ∀ ms w, Own E ms H w → Own E ms H' w) (h : GC E c Q H' ρ) : GC E c Q H ρ := fun ms a w ha hw => h ms a w ha (hh ms w hw)
theorem GL.imp {ops : Array Oper} {l : List Oper} (hh : ∀ ms w, Own E ms H w → Own E ms H' w) (h : GL E ops l Q H' ρ) : GL E ops l Q H ρ := fun ms a w ha hw => h ms a w ha (hh ms w hw)
/-- A fact that memory tells. -/
theorem GC.know {c : Code} {p : Prop} (hp : ∀ ms w, Own E ms H w → p) (h : p → GC E c Q H ρ) : GC E c Q H ρ := fun ms a w ha hw => h (hp ms w hw) ms a w ha hw
theorem GL.know {ops : Array Oper} {l : List Oper} {p : Prop} (hp : ∀ ms w, Own E ms H w → p) (h : p → GL E ops l Q H ρ) : GL E ops l Q H ρ := fun ms a w ha hw => h (hp ms w hw) ms a w ha hw

/-! code -/
theorem GC.seq {x y : Code} (h : GC E x (Exit.then (cW E y Q) Q) H ρ) : GC E (.seq x y) Q H ρ := fun ms a w ha hw => wpIn_seq (h ms a w ha hw)
theorem GC.block {id : Nat} {c : Code} (h : GC E c (Exit.inBlock id Q) H ρ) : GC E (.block id c) Q H ρ := fun ms a w ha hw => wpIn_block (h ms a w ha hw)
theorem GC.skip (h : GE E Q .normal H ρ) : GC E .skip Q H ρ := fun ms a w ha hw => wpIn_skip (h ms a w ha hw)
theorem GC.ret (h : GE E Q .ret H ρ) : GC E .ret Q H ρ := fun ms a w ha hw => wpIn_ret (h ms a w ha hw)
theorem GC.exit {id : Nat} (h : GE E Q (.exit id) H ρ) : GC E (.exit id) Q H ρ := fun ms a w ha hw => wpIn_exit (h ms a w ha hw)
theorem GC.label {l : Nat} (h : GE E Q .normal H ρ) : GC E (.label l) Q H ρ := fun ms a w ha hw => wpIn_label (h ms a w ha hw)
theorem GC.cond_tt {c : Operand} {x y : Code} (hc : ev ρ c = some (.bool true)) (h : GC E x Q H ρ) : GC E (.cond c x y) Q H ρ := fun ms a w ha hw => wpIn_cond_true (ha.eval hc) (h ms a w ha hw)
theorem GC.cond_ff {c : Operand} {x y : Code} (hc : ev ρ c = some (.bool false)) (h : GC E y Q H ρ) : GC E (.cond c x y) Q H ρ := fun ms a w ha hw => wpIn_cond_false (ha.eval hc) (h ms a w ha hw)
theorem GC.cond_b {c : Operand} {x y : Code} {t : Bool} (hc : ev ρ c = some (.bool t)) (h1 : t = true → GC E x Q H ρ) (h2 : t = false → GC E y Q H ρ) : GC E (.cond c x y) Q H ρ := fun ms a w ha hw =>
  wpIn_cond_split (ha.eval hc) (fun e => h1 e ms a w ha hw) (fun e => h2 e ms a w ha hw)
theorem GC.cond_d {c : Operand} {x y : Code} {p : Prop} [Decidable p] (hc : ev ρ c = some (.bool (decide p))) (h1 : p → GC E x Q H ρ) (h2 : ¬ p → GC E y Q H ρ) : GC E (.cond c x y) Q H ρ :=
  GC.cond_b hc (fun e => h1 (of_decide_eq_true e)) (fun e => h2 (of_decide_eq_false e))
/-- A region whose order is fixed. -/
theorem GC.region {id : Nat} {l : List Oper} (hd : noDefer l.toArray = true) (h : GL E l.toArray l Q H ρ) : GC E (.region id l.toArray false) Q H ρ := fun ms a w ha hw => wpIn_regionW E.R hd (h ms a w ha hw)
theorem GL.nil {ops : Array Oper} (h : GE E Q .normal H ρ) : GL E ops [] Q H ρ := h

/-! ends -/
theorem GE.then_n {y : Code} (h : GC E y Q H ρ) : GE E (Exit.then (cW E y Q) Q) .normal H ρ := h
theorem GE.then_k (h : GK E K H ρ) : GE E (Exit.then K Q) .normal H ρ := h
theorem GE.then_ret (h : GE E Q .ret H ρ) : GE E (Exit.then K Q) .ret H ρ := h
theorem GE.then_exit {i : Nat} (h : GE E Q (.exit i) H ρ) : GE E (Exit.then K Q) (.exit i) H ρ := h
theorem GE.in_n {id : Nat} (h : GE E Q .normal H ρ) : GE E (Exit.inBlock id Q) .normal H ρ := h
theorem GE.in_ret {id : Nat} (h : GE E Q .ret H ρ) : GE E (Exit.inBlock id Q) .ret H ρ := h
theorem GE.in_hit {id : Nat} (h : GE E Q .normal H ρ) : GE E (Exit.inBlock id Q) (.exit id) H ρ := fun ms a w ha hw => by
  simp only [Exit.inBlock, if_true]; exact h ms a w ha hw
theorem GE.in_miss {id i : Nat} (hne : Nat.beq i id = false) (h : GE E Q (.exit i) H ρ) : GE E (Exit.inBlock id Q) (.exit i) H ρ := fun ms a w ha hw => by
  have : i ≠ id := fun e => by rw [e] at hne; simp at hne
  simp only [Exit.inBlock, if_neg this]; exact h ms a w ha hw

/-! operations -/
theorem GL.op {ops : Array Oper} {rest : List Oper} {d : Option Tmp} {op : Op} {t : TypeId} {pos : String} {after : Array Edge}
    (h : GO E ⟨d, op, t, pos, after, none⟩ (listW E.P ops (Q .normal) rest) H ρ) : GL E ops (⟨d, op, t, pos, after, none⟩ :: rest) Q H ρ := fun ms a w ha hw => by
  unfold listW
  rw [if_pos (by simp [Region.wanted])]
  exact h ms a w ha hw
theorem GK.list {ops : Array Oper} {rest : List Oper} (h : GL E ops rest Q H ρ) : GK E (listW E.P ops (Q .normal) rest) H ρ := h
theorem GO.yl {d : Option Tmp} {op : Op} {t : TypeId} {pos : String} {after : Array Edge} {g : Option (Nat × Bool)} {v : Value}
    (hy : Yl E H ρ op v) (hd : okd E.n d = true) (h : GK E K H (putd ρ d v)) : GO E ⟨d, op, t, pos, after, g⟩ K H ρ := fun ms a w ha hw => by
  unfold opW
  rw [hy ms a w d t pos after g ha ⟨ms, hw⟩]
  exact h ms _ w (ha.putd hd v) hw
theorem GL.yl {ops : Array Oper} {rest : List Oper} {d : Option Tmp} {op : Op} {t : TypeId} {pos : String} {after : Array Edge} {v : Value}
    (hy : Yl E H ρ op v) (hd : okd E.n d = true) (h : GL E ops rest Q H (putd ρ d v)) : GL E ops (⟨d, op, t, pos, after, none⟩ :: rest) Q H ρ := GL.op (GO.yl hy hd h)
/-- Is an operation wanted? Out of the table. -/
def gwant (ops : Array Oper) (ρ : Regs) : Option (Nat × Bool) → Option Bool
  | none => some true
  | some (j, want) => match (ops[j]?).bind (·.dst) with
    | none => some false
    | some d => match look ρ d with
      | some (.bool b) => some (b == want)
      | some _ => some false
      | none => none
theorem gwant_spec {n : Nat} {ms : List Nat} {ops : Array Oper} {a : Act} {o : Oper} {b : Bool} (ha : Agree n ms a ρ) (h : gwant ops ρ o.guard = some b) : Region.wanted o (yielded ops a.tmps) = b := by
  unfold Region.wanted
  cases hg : o.guard with
  | none => rw [hg] at h; exact Option.some.inj h
  | some gw =>
    obtain ⟨j, want⟩ := gw
    rw [hg] at h
    simp only [gwant] at h
    show (yielded ops a.tmps j == some want) = b
    unfold yielded
    cases hd : (ops[j]?).bind (·.dst) with
    | none => rw [hd] at h; exact Option.some.inj h
    | some d =>
      rw [hd] at h
      simp only at h
      cases hl : look ρ d with
      | none => rw [hl] at h; cases h
      | some v =>
        obtain ⟨_, h2⟩ := ha.at_ d v hl
        rw [hl] at h
        have e : ((some d).bind fun x => a.tmps[x]?) = some v := h2
        rw [e]
        cases v with
        | bool x => exact (by simpa using h)
        | _ => exact Option.some.inj h
theorem GL.want {ops : Array Oper} {rest : List Oper} {d : Option Tmp} {op : Op} {t : TypeId} {pos : String} {after : Array Edge} {g : Option (Nat × Bool)}
    (hg : gwant ops ρ g = some true) (h : GL E ops (⟨d, op, t, pos, after, none⟩ :: rest) Q H ρ) : GL E ops (⟨d, op, t, pos, after, g⟩ :: rest) Q H ρ := fun ms a w ha hw => by
  have h0 := h ms a w ha hw
  unfold listW at h0 ⊢
  rw [if_pos (by simp [Region.wanted])] at h0
  rw [if_pos (gwant_spec ha hg)]
  exact h0
theorem GL.skip {ops : Array Oper} {rest : List Oper} {d : Option Tmp} {op : Op} {t : TypeId} {pos : String} {after : Array Edge} {g : Option (Nat × Bool)}
    (hg : gwant ops ρ g = some false) (hd : okd E.n d = true) (h : GL E ops rest Q H (putd ρ d undef)) : GL E ops (⟨d, op, t, pos, after, g⟩ :: rest) Q H ρ := fun ms a w ha hw => by
  unfold listW
  rw [if_neg (by rw [gwant_spec ha hg]; simp)]
  exact h ms _ w (ha.putd hd undef) hw
/-- A slot's bool, both ways. -/
theorem GL.both {ops : Array Oper} {l : List Oper} (d : Nat) {b : Bool} (hl : look ρ d = some (.bool b)) (h1 : b = true → GL E ops l Q H ((d, .bool true) :: ρ)) (h2 : b = false → GL E ops l Q H ((d, .bool false) :: ρ)) : GL E ops l Q H ρ := by
  cases hb : b with
  | true => exact fun ms a w ha hw => h1 hb ms a w (ha.sub (Sub.cons (hb ▸ hl) (Sub.refl _))) hw
  | false => exact fun ms a w ha hw => h2 hb ms a w (ha.sub (Sub.cons (hb ▸ hl) (Sub.refl _))) hw
theorem GL.bothd {ops : Array Oper} {l : List Oper} (d : Nat) {p : Prop} [Decidable p] (hl : look ρ d = some (.bool (decide p))) (h1 : p → GL E ops l Q H ((d, .bool true) :: ρ)) (h2 : ¬ p → GL E ops l Q H ((d, .bool false) :: ρ)) : GL E ops l Q H ρ :=
  GL.both d hl (fun e => h1 (of_decide_eq_true e)) (fun e => h2 (of_decide_eq_false e))
/-- A slot's value, otherwise spelt. -/
theorem GL.re {ops : Array Oper} {l : List Oper} (d : Nat) {v v' : Value} (hl : look ρ d = some v) (e : v = v') (h : GL E ops l Q H ((d, v') :: ρ)) : GL E ops l Q H ρ := fun ms a w ha hw =>
  h ms a w (ha.sub (Sub.cons (e ▸ hl) (Sub.refl _))) hw
theorem GC.re {c : Code} (d : Nat) {v v' : Value} (hl : look ρ d = some v) (e : v = v') (h : GC E c Q H ((d, v') :: ρ)) : GC E c Q H ρ := fun ms a w ha hw =>
  h ms a w (ha.sub (Sub.cons (e ▸ hl) (Sub.refl _))) hw

/-! a loop: its head told by a ghost s -/
theorem GC.loop {σ : Type} {c : Code} (J : σ → Prop) (μ : σ → Nat) (H' : σ → Heap) (ρ' : σ → Regs) (s0 : σ) (hJ : J s0) (hρ : Sub (ρ' s0) ρ) (hH : HSub (H' s0) H)
    (round : ∀ s, J s → GC E c (Exit.then (fun a w => ∃ s' ms, J s' ∧ μ s' < μ s ∧ Agree E.n ms a (ρ' s') ∧ Own E ms (H' s') w) Q) (H' s) (ρ' s)) : GC E (.loop c) Q H ρ := fun ms a w ha hw => by
  let I : Nat → Act → World → Prop := fun k a w => ∃ s ms, J s ∧ μ s = k ∧ Agree E.n ms a (ρ' s) ∧ Own E ms (H' s) w
  refine wpIn_loop (fun a w => ∃ k, I k a w) (fun a w => leastOf (fun k => I k a w)) ⟨μ s0, s0, ms, hJ, rfl, ha.sub hρ, hw.sub hH⟩ ?_
  intro a w hI
  obtain ⟨hs, hleast⟩ := leastOf_spec hI
  obtain ⟨s, ms, h1, h2, h3, h4⟩ := hs
  refine wpIn_mono (round s h1 ms a w h3 h4) ?_
  intro e a' w' hq
  cases e with
  | normal =>
    obtain ⟨s', ms', g1, g2, g3, g4⟩ := hq
    have hI' : I (μ s') a' w' := ⟨s', ms', g1, rfl, g3, g4⟩
    exact ⟨⟨_, hI'⟩, Nat.lt_of_le_of_lt ((leastOf_spec ⟨_, hI'⟩).2 _ hI') (h2 ▸ g2)⟩
  | exit id => exact hq
  | goto l => exact hq
  | ret => exact hq
  | panic ch => exact hq
  | outgrown => exact hq
theorem GE.again {σ : Type} {J : σ → Prop} {μ : σ → Nat} {H' : σ → Heap} {ρ' : σ → Regs} {s : σ} (s' : σ) (h1 : J s') (h2 : μ s' < μ s) (h3 : Sub (ρ' s') ρ) (h4 : HSub (H' s') H) :
    GE E (Exit.then (fun a w => ∃ s' ms, J s' ∧ μ s' < μ s ∧ Agree E.n ms a (ρ' s') ∧ Own E ms (H' s') w) Q) .normal H ρ := fun ms a w ha hw =>
  ⟨s', ms, h1, h2, ha.sub h3, hw.sub h4⟩
/-- Ways that meet again. -/
theorem GC.meet {σ : Type} {x y : Code} (J : σ → Prop) (H' : σ → Heap) (ρ' : σ → Regs)
    (h1 : GC E x (Exit.then (fun a w => ∃ s ms, J s ∧ Agree E.n ms a (ρ' s) ∧ Own E ms (H' s) w) Q) H ρ) (h2 : ∀ s, J s → GC E y Q (H' s) (ρ' s)) : GC E (.seq x y) Q H ρ := fun ms a w ha hw => by
  refine wpIn_seq (wpIn_mono (h1 ms a w ha hw) ?_)
  intro e a' w' hq
  cases e with
  | normal =>
    obtain ⟨s, ms, h1, h3, h4⟩ := hq
    exact h2 s h1 ms a' w' h3 h4
  | exit id => exact hq
  | goto l => exact hq
  | ret => exact hq
  | panic ch => exact hq
  | outgrown => exact hq
theorem GE.met {σ : Type} {J : σ → Prop} {H' : σ → Heap} {ρ' : σ → Regs} (s : σ) (h1 : J s) (h3 : Sub (ρ' s) ρ) (h4 : HSub (H' s) H) :
    GE E (Exit.then (fun a w => ∃ s ms, J s ∧ Agree E.n ms a (ρ' s) ∧ Own E ms (H' s) w) Q) .normal H ρ := fun ms a w ha hw => ⟨s, ms, h1, ha.sub h3, hw.sub h4⟩

/-! a region that draws its order: HS holds behind every operation till number q is listed (a store that turns what HS says, after which all is bound), then HS2 -/
def SG (E : Env) (q : Nat) (HS HS2 : Heap) (l : Array Bool) (w : World) : Prop := if l.getD q false = true then ∃ ms, Own E ms HS2 w else ∃ ms, Own E ms HS w
def GQ (E : Env) (ops : Array Oper) (Q : Exit → Act → World → Prop) (q : Nat) (HS HS2 : Heap) (fuel : Nat) (listed : Array Bool) (H : Heap) (ρ : Regs) : Prop :=
  ∀ ms a w, Agree E.n ms a ρ → Own E ms H w → anyW E.P ops (SG E q HS HS2) (Q .normal) fuel listed a w
abbrev GA (E : Env) (ops : Array Oper) (Q : Exit → Act → World → Prop) (HS : Heap) (fuel : Nat) (listed : Array Bool) (H : Heap) (ρ : Regs) : Prop := GQ E ops Q 9999 HS HS fuel listed H ρ
/-- What is shown of a drawn operation's end. -/
abbrev qK (E : Env) (ops : Array Oper) (Q : Exit → Act → World → Prop) (q : Nat) (HS HS2 : Heap) (fuel : Nat) (listed : Array Bool) (a' : Act) (w' : World) : Prop := SG E q HS HS2 listed w' ∧ anyW E.P ops (SG E q HS HS2) (Q .normal) fuel listed a' w'
theorem own_draw {w : World} {ms : List Nat} (h : Own E ms H w) : Own E ms H { w with drawn := w.drawn + 1 } := h.grow ⟨rfl, rfl, rfl, Nat.le_refl _, fun _ _ => rfl⟩
theorem GC.drawq {id : Nat} {ops : Array Oper} (hm : E.P.follows .mixedOrders = true) (hd : noDefer ops = true) (q : Nat) (HS HS2 : Heap) (h : GQ E ops Q q HS HS2 ops.size (Array.replicate ops.size false) H ρ) : GC E (.region id ops true) Q H ρ := fun ms a w ha hw =>
  wpIn_drawW E.R hm hd (h ms a _ ha (own_draw hw))
theorem GC.draw {id : Nat} {ops : Array Oper} (hm : E.P.follows .mixedOrders = true) (hd : noDefer ops = true) (HS : Heap) (h : GA E ops Q HS ops.size (Array.replicate ops.size false) H ρ) : GC E (.region id ops true) Q H ρ := GC.drawq hm hd 9999 HS HS h
section
variable {ops : Array Oper} {q : Nat} {HS HS2 : Heap} {fuel : Nat} {listed : Array Bool} {d : Option Tmp} {op : Op} {t : TypeId} {pos : String} {after : Array Edge} {g : Option (Nat × Bool)} {v : Value}
/-- Does the gate wait for number i? -/
def waits (ops : Array Oper) (q i : Nat) : Bool := match ops[q]? with
  | some o => o.after.any fun e => Region.binds .any e && Nat.beq e.on i
  | none => true
theorem gate_first {i : Nat} {oi : Oper} (hi : ops[i]? = some oi) (hs : Region.noSelect ops = true) (hf : Region.free .any ops listed i = true) (hr : (Region.ready .any ops listed).contains i = true)
    (hl : listed.getD q false = false) (hq : waits ops q i = true) (hne : Nat.beq i q = false) {a : Act} {w : World} {ms : List Nat} (hy : YieldsIf E.P ops (fun w => ∃ ms, Own E ms HS w) oi v a) (hH : HSub HS H) (hw : Own E ms H w)
    (h : anyW E.P ops (SG E q HS HS2) (Q .normal) fuel (listed.setIfInBounds i true) (a.put oi.dst v) w) : anyW E.P ops (SG E q HS HS2) (Q .normal) (fuel + 1) listed a w := by
  have hne' : i ≠ q := fun e => by rw [e] at hne; simp at hne
  have keep : ∀ (l : Array Bool) (j : Nat), j ≠ q → (l.setIfInBounds j true).getD q false = l.getD q false := fun l j hj => getD_set_ne false hj
  have good : ∀ (l : Array Bool) (w : World), l.getD q false = false → SG E q HS HS2 l w = ∃ ms, Own E ms HS w := fun l w hl => by
    unfold SG
    rw [if_neg (by rw [hl]; simp)]
  refine anyW_first (fun l => l.getD q false = false) hi (Region.noSelect_spec hs) (fun l j hg hil hj hji => ?_) (fun l w hg hS => ?_) (fun l w hg hS => ?_) fuel listed a w hl (Region.free_spec hi hf) (by simpa using hr) hy ⟨ms, hw.sub hH⟩ ?_ h
  · by_cases hjq : j = q
    · subst hjq
      obtain ⟨hjun, oj, hoj, hall⟩ := mem_ready.1 hj
      unfold waits at hq
      rw [hoj] at hq
      simp only [Array.any_eq_true', Bool.and_eq_true] at hq
      obtain ⟨e, he, hb, heq⟩ := hq
      have h1 := hall e he hb
      rw [Nat.eq_of_beq_eq_true heq] at h1
      rcases Nat.lt_or_ge i l.size with h' | h'
      · simp [h'] at hil h1; rw [hil] at h1; cases h1
      · simp [Array.getElem?_eq_none h'] at hil
    · rw [keep l j hjq]; exact hg
  · rw [good _ _ (by rw [keep l i hne']; exact hg)] at hS
    rw [good _ _ hg]; exact hS
  · rw [good _ _ hg] at hS; exact hS
  · rw [good _ _ (by rw [keep listed i hne']; exact hl)]; exact ⟨ms, hw.sub hH⟩
theorem gate_listed {l : Array Bool} {i : Nat} (h : l.getD q false = true) : (l.setIfInBounds i true).getD q false = true := by
  by_cases e : i = q
  · subst e
    have hlt : i < l.size := by
      rcases Nat.lt_or_ge i l.size with h' | h'
      · exact h'
      · simp [Array.getElem?_eq_none h'] at h
    simp [hlt]
  · rw [getD_set_ne false e]; exact h
theorem gate_after {i : Nat} {oi : Oper} (hi : ops[i]? = some oi) (hs : Region.noSelect ops = true) (hf : Region.free .any ops listed i = true) (hr : (Region.ready .any ops listed).contains i = true)
    (hl : listed.getD q false = true) {a : Act} {w : World} {ms : List Nat} (hy : YieldsIf E.P ops (fun w => ∃ ms, Own E ms HS2 w) oi v a) (hH : HSub HS2 H) (hw : Own E ms H w)
    (h : anyW E.P ops (SG E q HS HS2) (Q .normal) fuel (listed.setIfInBounds i true) (a.put oi.dst v) w) : anyW E.P ops (SG E q HS HS2) (Q .normal) (fuel + 1) listed a w := by
  have good : ∀ (l : Array Bool) (w : World), l.getD q false = true → SG E q HS HS2 l w = ∃ ms, Own E ms HS2 w := fun l w hl => by
    unfold SG
    rw [if_pos hl]
  refine anyW_first (fun l => l.getD q false = true) hi (Region.noSelect_spec hs) (fun l j hg _ _ _ => gate_listed hg) (fun l w hg hS => ?_) (fun l w hg hS => ?_) fuel listed a w hl (Region.free_spec hi hf) (by simpa using hr) hy ⟨ms, hw.sub hH⟩ ?_ h
  · rw [good _ _ (gate_listed hg)] at hS
    rw [good _ _ hg]; exact hS
  · rw [good _ _ hg] at hS; exact hS
  · rw [good _ _ (gate_listed hl)]; exact ⟨ms, hw.sub hH⟩
/-- Number i is taken first. -/
theorem GQ.take (i : Nat)
    (hi : ops[i]? = some ⟨d, op, t, pos, after, g⟩) (hs : Region.noSelect ops = true) (hf : Region.free .any ops listed i = true) (hr : (Region.ready .any ops listed).contains i = true)
    (hl : listed.getD q false = false) (hq : waits ops q i = true) (hne : Nat.beq i q = false) (hg : gwant ops ρ g = some true) (hy : Yl E HS ρ op v) (hd : okd E.n d = true) (hH : HSub HS H)
    (h : GQ E ops Q q HS HS2 fuel (listed.setIfInBounds i true) H (putd ρ d v)) : GQ E ops Q q HS HS2 (fuel + 1) listed H ρ := fun ms a w ha hw =>
  gate_first hi hs hf hr hl hq hne (.inl ⟨gwant_spec ha hg, fun w hw => hy ms a w d t pos after g ha hw⟩) hH hw (h ms _ w (ha.putd hd v) hw)
theorem GQ.take2 (i : Nat)
    (hi : ops[i]? = some ⟨d, op, t, pos, after, g⟩) (hs : Region.noSelect ops = true) (hf : Region.free .any ops listed i = true) (hr : (Region.ready .any ops listed).contains i = true)
    (hl : listed.getD q false = true) (hg : gwant ops ρ g = some true) (hy : Yl E HS2 ρ op v) (hd : okd E.n d = true) (hH : HSub HS2 H)
    (h : GQ E ops Q q HS HS2 fuel (listed.setIfInBounds i true) H (putd ρ d v)) : GQ E ops Q q HS HS2 (fuel + 1) listed H ρ := fun ms a w ha hw =>
  gate_after hi hs hf hr hl (.inl ⟨gwant_spec ha hg, fun w hw => hy ms a w d t pos after g ha hw⟩) hH hw (h ms _ w (ha.putd hd v) hw)
/-- Number i is passed over: its guard doesn't want it. -/
theorem GQ.pass (i : Nat)
    (hi : ops[i]? = some ⟨d, op, t, pos, after, g⟩) (hs : Region.noSelect ops = true) (hf : Region.free .any ops listed i = true) (hr : (Region.ready .any ops listed).contains i = true)
    (hl : listed.getD q false = false) (hq : waits ops q i = true) (hne : Nat.beq i q = false) (hg : gwant ops ρ g = some false) (hd : okd E.n d = true) (hH : HSub HS H)
    (h : GQ E ops Q q HS HS2 fuel (listed.setIfInBounds i true) H (putd ρ d undef)) : GQ E ops Q q HS HS2 (fuel + 1) listed H ρ := fun ms a w ha hw =>
  gate_first hi hs hf hr hl hq hne (.inr ⟨gwant_spec ha hg, rfl⟩) hH hw (h ms _ w (ha.putd hd undef) hw)
theorem GQ.pass2 (i : Nat)
    (hi : ops[i]? = some ⟨d, op, t, pos, after, g⟩) (hs : Region.noSelect ops = true) (hf : Region.free .any ops listed i = true) (hr : (Region.ready .any ops listed).contains i = true)
    (hl : listed.getD q false = true) (hg : gwant ops ρ g = some false) (hd : okd E.n d = true) (hH : HSub HS2 H)
    (h : GQ E ops Q q HS HS2 fuel (listed.setIfInBounds i true) H (putd ρ d undef)) : GQ E ops Q q HS HS2 (fuel + 1) listed H ρ := fun ms a w ha hw =>
  gate_after hi hs hf hr hl (.inr ⟨gwant_spec ha hg, rfl⟩) hH hw (h ms _ w (ha.putd hd undef) hw)
theorem GA.take (i : Nat)
    (hi : ops[i]? = some ⟨d, op, t, pos, after, g⟩) (hs : Region.noSelect ops = true) (hf : Region.free .any ops listed i = true) (hr : (Region.ready .any ops listed).contains i = true)
    (hg : gwant ops ρ g = some true) (hy : Yl E HS ρ op v) (hd : okd E.n d = true) (hH : HSub HS H)
    (h : GA E ops Q HS fuel (listed.setIfInBounds i true) H (putd ρ d v)) : GA E ops Q HS (fuel + 1) listed H ρ := by
  intro ms a w ha hw
  have hS : ∀ l w, SG E 9999 HS HS l w = ∃ ms, Own E ms HS w := fun l w => by unfold SG; exact ite_self _
  exact anyW_first (S0 := fun w => ∃ ms, Own E ms HS w) (fun _ => True) hi (Region.noSelect_spec hs) (fun _ _ _ _ _ _ => trivial) (fun l w _ h => by rw [hS] at h ⊢; exact h) (fun l w _ h => by rw [hS] at h; exact h) fuel listed a w trivial (Region.free_spec hi hf) (by simpa using hr)
    (.inl ⟨gwant_spec ha hg, fun w hw => hy ms a w d t pos after g ha hw⟩) ⟨ms, hw.sub hH⟩ (by rw [hS]; exact ⟨ms, hw.sub hH⟩) (h ms _ w (ha.putd hd v) hw)
theorem GA.pass (i : Nat)
    (hi : ops[i]? = some ⟨d, op, t, pos, after, g⟩) (hs : Region.noSelect ops = true) (hf : Region.free .any ops listed i = true) (hr : (Region.ready .any ops listed).contains i = true)
    (hg : gwant ops ρ g = some false) (hd : okd E.n d = true) (hH : HSub HS H)
    (h : GA E ops Q HS fuel (listed.setIfInBounds i true) H (putd ρ d undef)) : GA E ops Q HS (fuel + 1) listed H ρ := by
  intro ms a w ha hw
  have hS : ∀ l w, SG E 9999 HS HS l w = ∃ ms, Own E ms HS w := fun l w => by unfold SG; exact ite_self _
  exact anyW_first (S0 := fun w => ∃ ms, Own E ms HS w) (fun _ => True) hi (Region.noSelect_spec hs) (fun _ _ _ _ _ _ => trivial) (fun l w _ h => by rw [hS] at h ⊢; exact h) (fun l w _ h => by rw [hS] at h; exact h) fuel listed a w trivial (Region.free_spec hi hf) (by simpa using hr)
    (.inr ⟨gwant_spec ha hg, rfl⟩) ⟨ms, hw.sub hH⟩ (by rw [hS]; exact ⟨ms, hw.sub hH⟩) (h ms _ w (ha.putd hd undef) hw)
/-- Number i alone may come up. -/
theorem GQ.one (i : Nat) {o : Oper} (hr : Region.ready .any ops listed = [i]) (hi : ops[i]? = some o)
    (hg : gwant ops ρ o.guard = some true) (h : GO E o (qK E ops Q q HS HS2 fuel (listed.setIfInBounds i true)) H ρ) : GQ E ops Q q HS HS2 (fuel + 1) listed H ρ := fun ms a w ha hw => by
  refine ⟨fun e => (by rw [hr] at e; cases e), fun j hj => ?_⟩
  rw [hr] at hj
  obtain rfl : j = i := by simpa using hj
  unfold stepW
  rw [hi]
  simp only
  rw [if_pos (gwant_spec ha hg)]
  exact h ms a w ha hw
/-- Two may come up. -/
theorem GQ.two (i j : Nat) {o o' : Oper} (hr : Region.ready .any ops listed = [i, j]) (hi : ops[i]? = some o) (hj : ops[j]? = some o')
    (hg : gwant ops ρ o.guard = some true) (hg' : gwant ops ρ o'.guard = some true)
    (h : GO E o (qK E ops Q q HS HS2 fuel (listed.setIfInBounds i true)) H ρ)
    (h' : GO E o' (qK E ops Q q HS HS2 fuel (listed.setIfInBounds j true)) H ρ) : GQ E ops Q q HS HS2 (fuel + 1) listed H ρ := fun ms a w ha hw => by
  refine ⟨fun e => (by rw [hr] at e; cases e), fun k hk => ?_⟩
  rw [hr] at hk
  have hk : k = i ∨ k = j := by simpa using hk
  unfold stepW
  rcases hk with rfl | rfl
  · rw [hi]
    simp only
    rw [if_pos (gwant_spec ha hg)]
    exact h ms a w ha hw
  · rw [hj]
    simp only
    rw [if_pos (gwant_spec ha hg')]
    exact h' ms a w ha hw
theorem GK.any (hH : HSub HS H) (h : GA E ops Q HS fuel listed H ρ) : GK E (qK E ops Q 9999 HS HS fuel listed) H ρ := fun ms a w ha hw => ⟨by unfold SG; rw [ite_self]; exact ⟨ms, hw.sub hH⟩, h ms a w ha hw⟩
theorem GK.any1 (hl : listed.getD q false = false) (hH : HSub HS H) (h : GQ E ops Q q HS HS2 fuel listed H ρ) : GK E (qK E ops Q q HS HS2 fuel listed) H ρ := fun ms a w ha hw => ⟨by unfold SG; rw [if_neg (by rw [hl]; simp)]; exact ⟨ms, hw.sub hH⟩, h ms a w ha hw⟩
theorem GK.any2 (hl : listed.getD q false = true) (hH : HSub HS2 H) (h : GQ E ops Q q HS HS2 fuel listed H ρ) : GK E (qK E ops Q q HS HS2 fuel listed) H ρ := fun ms a w ha hw => ⟨by unfold SG; rw [if_pos hl]; exact ⟨ms, hw.sub hH⟩, h ms a w ha hw⟩
theorem GQ.done (hr : Region.ready .any ops listed = []) (h : GE E Q .normal H ρ) : GQ E ops Q q HS HS2 fuel listed H ρ := fun ms a w ha hw => by
  cases fuel with
  | zero => exact ⟨hr, h ms a w ha hw⟩
  | succ k => exact ⟨fun _ => h ms a w ha hw, by rw [hr]; simp⟩
theorem GQ.re (d : Nat) {v v' : Value} (hl : look ρ d = some v) (e : v = v') (h : GQ E ops Q q HS HS2 fuel listed H ((d, v') :: ρ)) : GQ E ops Q q HS HS2 fuel listed H ρ := fun ms a w ha hw =>
  h ms a w (ha.sub (Sub.cons (e ▸ hl) (Sub.refl _))) hw
theorem GQ.both (d : Nat) {b : Bool} (hl : look ρ d = some (.bool b)) (h1 : b = true → GQ E ops Q q HS HS2 fuel listed H ((d, .bool true) :: ρ)) (h2 : b = false → GQ E ops Q q HS HS2 fuel listed H ((d, .bool false) :: ρ)) : GQ E ops Q q HS HS2 fuel listed H ρ := by
  cases hb : b with
  | true => exact fun ms a w ha hw => h1 hb ms a w (ha.sub (Sub.cons (hb ▸ hl) (Sub.refl _))) hw
  | false => exact fun ms a w ha hw => h2 hb ms a w (ha.sub (Sub.cons (hb ▸ hl) (Sub.refl _))) hw
theorem GQ.bothd (d : Nat) {p : Prop} [Decidable p] (hl : look ρ d = some (.bool (decide p))) (h1 : p → GQ E ops Q q HS HS2 fuel listed H ((d, .bool true) :: ρ)) (h2 : ¬ p → GQ E ops Q q HS HS2 fuel listed H ((d, .bool false) :: ρ)) : GQ E ops Q q HS HS2 fuel listed H ρ :=
  GQ.both d hl (fun e => h1 (of_decide_eq_true e)) (fun e => h2 (of_decide_eq_false e))
theorem GQ.know {p : Prop} (hp : ∀ ms w, Own E ms H w → p) (h : p → GQ E ops Q q HS HS2 fuel listed H ρ) : GQ E ops Q q HS HS2 fuel listed H ρ := fun ms a w ha hw => h (hp ms w hw) ms a w ha hw
theorem GK.know {p : Prop} (hp : ∀ ms w, Own E ms H w → p) (h : p → GK E K H ρ) : GK E K H ρ := fun ms a w ha hw => h (hp ms w hw) ms a w ha hw
end
end

/-! ### a function, from its begin to its end -/
theorem look_argRegs : ∀ (vs : List Value) (i t : Nat) (v : Value), look (argRegs vs i) t = some v → i ≤ t ∧ vs[t - i]? = some v
  | [], i, t, v, h => by cases h
  | u :: vs, i, t, v, h => by
    unfold argRegs at h
    rw [look_cons] at h
    by_cases e : i = t
    · subst e
      rw [if_pos rfl] at h
      refine ⟨Nat.le_refl _, ?_⟩
      rw [Nat.sub_self]
      exact h
    · rw [if_neg e] at h
      obtain ⟨h1, h2⟩ := look_argRegs vs (i + 1) t v h
      refine ⟨by omega, ?_⟩
      have e2 : t - i = (t - (i + 1)) + 1 := by omega
      rw [e2, List.getElem?_cons_succ]
      exact h2

/-- What the body of a function must achieve. -/
abbrev fnPost (P : Program) (fn : Func) (R : Ending → World → Prop) : Exit → Act → World → Prop := bodyPostM Fence.wide 0 P fn R
theorem calls_in {P : Program} {f : FuncId} {fn : Func} {c : Code} {args : List Value} {w : World} {R : Ending → World → Prop} (hf : P.funcs[f]? = some fn) (hb : fn.body = some c) (hn : Nat.ble args.length fn.ntmps = true)
    (h : GC ⟨P, fn.ntmps, none, w, w.heap.size, emp⟩ c (fnPost P fn R) [] (argRegs args 0)) : Calls P f args.toArray w R := by
  have hn' : args.length ≤ fn.ntmps := Nat.le_of_ble_eq_true hn
  refine (callsIn_wide (n := 0)).1 (callsIn_of_wp_marks hf hb trivial (h [] _ w ⟨rfl, ?_, ?_⟩ (Own.start (Nat.le_refl _) rfl)))
  · simp; omega
  · intro t v ht
    obtain ⟨_, h2⟩ := look_argRegs args 0 t v ht
    rw [Nat.sub_zero] at h2
    have hlt : t < args.length := (List.getElem?_eq_some_iff.1 h2).1
    refine ⟨Nat.lt_of_lt_of_le hlt hn', ?_⟩
    rw [Array.getElem?_append_left (by simpa using hlt)]
    simpa using h2

/-- A block that holds no cells is laid anew. -/
def putObj (w : World) (b : Nat) (o : Obj) : World := { w with heap := w.heap.setIfInBounds b o }
theorem putObj_same {w : World} {b : Nat} (o : Obj) (h : b < w.heap.size) : (putObj w b o).heap[b]? = some o := by simp [putObj, h]
theorem putObj_other {w : World} {b c : Nat} (o : Obj) (h : b ≠ c) : (putObj w b o).heap[c]? = w.heap[c]? := by simp [putObj, Array.getElem?_setIfInBounds_ne h]
theorem putObj_size (w : World) (b : Nat) (o : Obj) : (putObj w b o).heap.size = w.heap.size := by simp [putObj]
theorem run_take {P : Program} {w : World} {m : Nat} (h : w.heap[m]? = some (.deferred (some []))) : (Instr.takeDeferred m).run P w = .ok [] (putObj w m (.deferred none)) := by
  simp [Instr.takeDeferred, getObj, setObj, Sem.run, h, putObj]

section
variable {E : Env} {H : Heap} {ρ : Regs} {fn : Func} {R : Ending → World → Prop}
theorem own_mark {w : World} {m : Nat} {ms : List Nat} (h : Own E (m :: ms) H w) : w.heap[m]? = some (.deferred (some [])) := by
  obtain ⟨_, _, F, _, _, f3⟩ := h
  exact ((f3 .marks _ rfl).2 m (by simp)).2
theorem own_untake {w : World} {m : Nat} {ms : List Nat} (h : Own E (m :: ms) H w) : Own E ms H (putObj w m (.deferred none)) := by
  obtain ⟨h1, h2⟩ := h.lies.turn (q := part E.Z ms H) (w' := putObj w m (.deferred none)) h.size (by rw [putObj_size]; exact Nat.le_refl _) .marks (fun i hi => by cases i <;> first | rfl | exact absurd rfl hi) (fun S hS hb => by
    obtain ⟨n1, n2⟩ := hS _ rfl
    obtain ⟨n3, n4⟩ := List.nodup_cons.1 n1
    refine ⟨fun b _ hs => putObj_other _ (fun e => hs (e ▸ (n2 m (by simp)).1)), fun A hA => ?_⟩
    rw [← Option.some.inj hA]
    refine ⟨n4, fun m' hm' => ?_⟩
    have hne : m ≠ m' := fun e => n3 (by rw [e]; exact hm')
    obtain ⟨p1, p2⟩ := n2 m' (by simp [hm'])
    exact ⟨.inl p1, by rw [putObj_other _ hne]; exact p2⟩)
  exact ⟨h.below.trans ⟨rfl, rfl, rfl, by rw [putObj_size]; exact Nat.le_refl _, h2⟩, by rw [putObj_size]; exact h.size, h1⟩
theorem leaves_marks {tmps : Array Value} {v : Value} (hv : ∀ w, (results fn tmps).run E.P w = .ok v w) (h : ∀ w, Own E [] H w → R (.returned v) w) : ∀ (ms : List Nat) (w : World), Own E ms H w → LeavesInM Fence.wide 0 E.P fn tmps R (marks ms) .returning w
  | [], w, hw => by
    show LeavesIn _ _ _ _ _ _ [] _ _
    exact ⟨v, hv w, h w hw⟩
  | m :: ms, w, hw => by
    have hm := own_mark hw
    exact ⟨by simp, .inl ⟨m, _, rfl, run_take hm, leaves_marks hv h ms _ (own_untake hw)⟩⟩
theorem GE.ret1 {r : Tmp} {v : Value} (hres : fn.results = #[.tmp r]) (hv : look ρ r = some v) (h : ∀ w, Own E [] H w → R (.returned v) w) : GE E (fnPost E.P fn R) .ret H ρ := fun ms a w ha hw => by
  obtain ⟨_, h2⟩ := ha.at_ r v hv
  have e : a.tmps.getD r undef = v := by simp [h2]
  show LeavesInM Fence.wide 0 E.P fn a.tmps R a.defers .returning w
  rw [ha.defers]
  exact leaves_marks (fun w => by rw [results_tmp hres, e]) h ms w hw
theorem GE.ret2 {r s : Tmp} {v u : Value} (hres : fn.results = #[.tmp r, .tmp s]) (hv : look ρ r = some v) (hu : look ρ s = some u) (h : ∀ w, Own E [] H w → R (.returned (.tuple #[v, u])) w) : GE E (fnPost E.P fn R) .ret H ρ := fun ms a w ha hw => by
  obtain ⟨_, h2⟩ := ha.at_ r v hv
  obtain ⟨_, h3⟩ := ha.at_ s u hu
  have e : a.tmps.getD r undef = v := by simp [h2]
  have e' : a.tmps.getD s undef = u := by simp [h3]
  show LeavesInM Fence.wide 0 E.P fn a.tmps R a.defers .returning w
  rw [ha.defers]
  exact leaves_marks (fun w => by rw [results_tmp2 hres, e, e']) h ms w hw
theorem GE.ret0 (hres : fn.results = #[]) (h : ∀ w, Own E [] H w → R (.returned (.tuple #[])) w) : GE E (fnPost E.P fn R) .ret H ρ := fun ms a w ha hw => by
  show LeavesInM Fence.wide 0 E.P fn a.tmps R a.defers .returning w
  rw [ha.defers]
  exact leaves_marks (fun w => by rw [results_none hres]) h ms w hw
theorem GE.end0 (hres : fn.results = #[]) (h : ∀ w, Own E [] H w → R (.returned (.tuple #[])) w) : GE E (fnPost E.P fn R) .normal H ρ := GE.ret0 hres h
end
end Go.Proofs.YtligejpfbcdpmaaDoor.Dv
