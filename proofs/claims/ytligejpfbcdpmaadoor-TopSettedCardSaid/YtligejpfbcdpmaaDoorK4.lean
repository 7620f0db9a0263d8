/- Rows that grow by append; a range over a function, at whatever iterator that has its contract.
   No condition. -/
import Derived.Test.YtligejpfbcdpmaaDoorK2
import Derived.RangeFuncRecord
namespace Go.Proofs.YtligejpfbcdpmaaDoor.Dv
set_option linter.unusedVariables false
set_option linter.unusedSimpArgs false
open Go.RowKit

/-! ### rows -/
/-- v is nil, or starts a row of the call's own, whose first n elements (of so many cells each) are xs. -/
def row (v : Value) (e : TypeId) (size n : Nat) (xs : List Value) : Asrt :=
  ⟨fun S w => w.ownsRow 0 e size v n xs ∧ ∀ b, v.ownBlock = some b → S b, fun S w w' h ⟨⟨h1, h2⟩, h3⟩ => by
    refine ⟨⟨h1, ?_⟩, h3⟩
    rcases h2 with h2 | ⟨g, cap, cur, rfl, g1, g2, g3⟩
    · exact .inl h2
    · exact .inr ⟨g, cap, cur, rfl, g1, by rw [h g (h3 g rfl)]; exact g2, g3⟩, fun S S' w h ⟨h1, h2⟩ => ⟨h1, fun b hb => h b (h2 b hb)⟩⟩
theorem row_nil (e : TypeId) (size : Nat) (S : Nat → Prop) (w : World) : (row (.slice none 0 0) e size 0 []).holds S w := ⟨World.ownsRow_nil w 0 e size, fun b hb => by cases hb⟩
section
variable {E : Env} {H : Heap} {ρ : Regs} {K : Act → World → Prop} {Q : Exit → Act → World → Prop}
theorem Own.nil {ms : List Nat} {w : World} (h : Own E ms H w) (k : Nat) (e : TypeId) (size : Nat) : Own E ms ((k, row (.slice none 0 0) e size 0 []) :: H) w := h.more (Below.refl _ _) k _ (row_nil e size _ _)
theorem GL.nilrow {ops : Array Oper} {l : List Oper} (k : Nat) (e : TypeId) (size : Nat) (h : GL E ops l Q ((k, row (.slice none 0 0) e size 0 []) :: H) ρ) : GL E ops l Q H ρ := GL.imp (fun ms w hw => hw.nil k e size) h
theorem GC.nilrow {c : Code} (k : Nat) (e : TypeId) (size : Nat) (h : GC E c Q ((k, row (.slice none 0 0) e size 0 []) :: H) ρ) : GC E c Q H ρ := GC.imp (fun ms w hw => hw.nil k e size) h
theorem row_isSl {w : World} {v : Value} {e : TypeId} {n : Nat} {xs : List Value} (h : w.ownsRow 0 e 1 v n xs) : IsSl w v xs ∧ n = xs.length := by
  obtain ⟨h1, h2⟩ := h
  have hn : n = xs.length := by omega
  subst hn
  rcases h2 with ⟨rfl, h2⟩ | ⟨g, cap, cur, rfl, _, hg, hc, _, hs, ht⟩
  · have hx : xs = [] := List.eq_nil_of_length_eq_zero h2
    subst hx
    exact ⟨⟨none, 0, rfl, Nat.le_refl _, fun j x hj => by cases hj⟩, rfl⟩
  · refine ⟨⟨some ⟨g, 0, none⟩, cap, rfl, hc, fun j x hj => ⟨g, 0, rfl, ?_⟩⟩, rfl⟩
    rw [cell_of_row w g (0 + j) cur e (0, 0) hg, Nat.zero_add]
    rw [← ht, List.getElem?_take] at hj
    split at hj
    · simpa using hj
    · cases hj
theorem Own.rowSl {ms : List Nat} {w : World} (h : Own E ms H w) {k : Nat} {v : Value} {e : TypeId} {n : Nat} {xs : List Value} (hk : hlook H k = some (row v e 1 n xs)) : IsSl w v xs := by
  obtain ⟨S, _, h1, _⟩ := h.get hk
  exact (row_isSl h1).1
/-- A cell of a row. -/
theorem Yl.loadRow (k : Nat) {T e : TypeId} {x : Operand} {g o n cap size : Nat} {xs : List Value} {v : Value} (hk : hlook H k = some (row (.slice (some ⟨g, 0, none⟩) n cap) e size n xs)) (ht : Sc E.P T) (hx : ev ρ x = some (.pointer (some ⟨g, o, none⟩))) (hv : xs[o]? = some v) : Yl E H ρ (.load T x) v :=
  Yl.loadCell ht hx fun w hw => by
    obtain ⟨S, _, h1, _⟩ := hw.get hk
    have := h1.cells (g := g) rfl o v hv
    rwa [addr_add, Nat.zero_add] at this

/-- What append leaves: a row that goes on; its block is the old one, or new. -/
theorem append_row {P : Program} (w : World) (t ty e : TypeId) (z : Value) (size bytes : Nat) (ht : P.underlying t = some (.slice e)) (hz : Zr P e z) (hs : Sz P e size) (hb : By P e bytes) (hzs : z.cells.size = size) (hsz : 0 < size)
    (v : Value) (n : Nat) (xs : List Value) (hown : w.ownsRow 0 e size v n xs)
    (a : Addr) (m c : Nat) (news : List Value) (hl : news.length = m * size) (hnews : ∀ j u, news[j]? = some u → w.cell? (a.add j) = some u) (h1 : ∀ u ∈ news, u.oneCell' = true)
    (h63 : n + m ≤ 140737488355328) (hbytes : (n + m) * bytes ≤ 140737488355328) (hm : 0 < m) :
    ∃ g cap w', (Builtin.append_ #[t, t] ty #[v, .slice (some a) m c]).run P w = .ok (.slice (some ⟨g, 0, none⟩) (n + m) cap) w' ∧ w'.ownsRow 0 e size (.slice (some ⟨g, 0, none⟩) (n + m) cap) (n + m) (xs ++ news) ∧ w.grownBy w' v.ownBlock ∧
      (v.ownBlock = some g ∨ w.heap.size ≤ g ∧ g < w'.heap.size) := by
  obtain ⟨i, hi, hz'⟩ := Option.bind_eq_some_iff.1 hz
  obtain ⟨i', hi', hs'⟩ := Option.map_eq_some_iff.1 hs
  obtain ⟨i'', hi'', hb'⟩ := Option.map_eq_some_iff.1 hb
  rw [hi] at hi' hi''
  obtain rfl := Option.some.inj hi'
  obtain rfl := Option.some.inj hi''
  obtain ⟨v', w', hr, ho, hg, hn⟩ := run_append_own (P := P) w 0 t ty e i z size bytes ht hi hz' hs' hb' hzs hsz v n xs hown a m c news hl hnews h1 (by simp only [maxLen]; omega) hbytes (Nat.zero_le _)
  subst hs'
  subst hb'
  rcases ho.2 with ⟨rfl, h0⟩ | ⟨g, cap, cur, rfl, _, hgg, _⟩
  · omega
  · refine ⟨g, cap, w', hr, ho, hg, ?_⟩
    have hlt : g < w'.heap.size := (Array.getElem?_eq_some_iff.1 hgg).1
    rcases hown.2 with ⟨rfl, rfl⟩ | ⟨g', cap', cur', rfl, _, hg', hnc, hcm, hcs, htake⟩
    · right
      have hr2 := run_append_nil (P := P) w t ty e i z ht hi hz' a m c news hl hnews hm (by omega) (by have := hbytes; simp only [Nat.zero_add] at this; omega)
      rw [hr] at hr2
      have e1 := (Result.ok.inj hr2).1
      have e2 : g = w.heap.size := by
        have := Value.slice.inj e1
        have := Option.some.inj this.1
        exact congrArg Addr.block this
      exact ⟨by omega, hlt⟩
    · by_cases hroom : n + m ≤ cap'
      · left
        have hfit : n * i.size + news.length ≤ cur'.size := by rw [hl, hcs, ← Nat.add_mul]; exact Nat.mul_le_mul_right _ hroom
        have hr2 := run_append_room (P := P) w t ty e i ht hi g' n cap' cur' hg' a m c news hl hnews h1 hroom hfit
        rw [hr] at hr2
        have e1 := (Result.ok.inj hr2).1
        have := Option.some.inj (Value.slice.inj e1).1
        have e2 : g = g' := congrArg Addr.block this
        rw [e2]; rfl
      · right
        have holds : ∀ j u, xs[j]? = some u → w.cell? ((⟨g', 0, none⟩ : Addr).add j) = some u := hown.cells (g := g') rfl
        have hr2 := run_append_grow (P := P) w t ty e i z ht hi hz' ⟨g', 0, none⟩ n cap' xs hown.1 holds a m c news hl hnews (by omega) (by omega) (growslice_fits (by omega) hbytes)
        rw [hr] at hr2
        have e1 := (Result.ok.inj hr2).1
        have e2 : g = w.heap.size := by
          have := Option.some.inj (Value.slice.inj e1).1
          exact congrArg Addr.block this
        exact ⟨by omega, hlt⟩
/-- append to a row of the call's own. -/
theorem GO.append (k : Nat) {T e : TypeId} {z : Value} {size bytes : Nat} {s x : Operand} {v : Value} {n : Nat} {xs : List Value} {a : Addr} {m c : Nat} {news : List Value} {d : Option Tmp} {t : TypeId} {pos : String} {after : Array Edge} {gd : Option (Nat × Bool)}
    (hk : hlook H k = some (row v e size n xs)) (ht : E.P.underlying T = some (.slice e)) (hz : Zr E.P e z) (hs : Sz E.P e size) (hb : By E.P e bytes) (hzs : z.cells.size = size) (hsz : 0 < size)
    (hv : ev ρ s = some v) (hx : ev ρ x = some (.slice (some a) m c)) (hl : news.length = m * size) (hnews : ∀ {ms} w, Own E ms H w → ∀ j u, news[j]? = some u → w.cell? (a.add j) = some u) (h1 : ∀ u ∈ news, u.oneCell' = true)
    (h63 : n + m ≤ 140737488355328) (hbytes : (n + m) * bytes ≤ 140737488355328) (hm : 0 < m) (hd : okd E.n d = true)
    (h : ∀ g cap, GK E K ((k, row (.slice (some ⟨g, 0, none⟩) (n + m) cap) e size (n + m) (xs ++ news)) :: H) (putd ρ d (.slice (some ⟨g, 0, none⟩) (n + m) cap))) :
    GO E ⟨d, .call { callee := .builtin .append, args := #[s, x], argTypes := #[T, T] }, t, pos, after, gd⟩ K H ρ := fun ms w0 w ha hw => by
  obtain ⟨S, hS, ho, hS2⟩ := hw.get hk
  obtain ⟨g, cap, w', hr, ho', hg, hgg⟩ := append_row w T t e z size bytes ht hz hs hb hzs hsz v n xs ho a m c news hl (hnews w hw) h1 h63 hbytes hm
  have hr' : (execOp w0.eval ⟨d, .call { callee := .builtin .append, args := #[s, x], argTypes := #[T, T] }, t, pos, after, gd⟩).run E.P w = .ok (.value (.slice (some ⟨g, 0, none⟩) (n + m) cap)) w' := by
    simp [execOp, resolve, invoke, builtin, ha.eval hv, ha.eval hx, hr]
  unfold opW
  rw [hr']
  refine h g cap ms _ w' (ha.putd hd _) (hw.turn hk hg.size hg.os hg.tape hg.output fun S2 hS2h hb2 => ⟨fun b hb hnb => hg.block b hb (fun e => hnb (hS2h.2 b e.symm)), ho', fun b hb => ?_⟩)
  have hb' : g = b := by simpa [Value.ownBlock] using hb
  subst hb'
  rcases hgg with e | e
  · exact .inl (hS2h.2 g e)
  · exact .inr e
/-- append of what lies in a box of the call's own. -/
theorem GO.appendBox (k kb : Nat) {T e e' : TypeId} {z : Value} {size bytes : Nat} {s x : Operand} {v : Value} {n : Nat} {xs : List Value} {b : Nat} {cs : Array Value} {m c : Nat} {d : Option Tmp} {t : TypeId} {pos : String} {after : Array Edge} {gd : Option (Nat × Bool)}
    (hk : hlook H k = some (row v e size n xs)) (hkb : hlook H kb = some (Dv.box b cs e')) (ht : E.P.underlying T = some (.slice e)) (hz : Zr E.P e z) (hs : Sz E.P e size) (hb : By E.P e bytes) (hzs : z.cells.size = size) (hsz : 0 < size)
    (hv : ev ρ s = some v) (hx : ev ρ x = some (.slice (some ⟨b, 0, none⟩) m c)) (hl : cs.size = m * size) (h1 : ∀ u ∈ cs.toList, u.oneCell' = true)
    (h63 : n + m ≤ 140737488355328) (hbytes : (n + m) * bytes ≤ 140737488355328) (hm : 0 < m) (hd : okd E.n d = true)
    (h : ∀ g cap, GK E K ((k, row (.slice (some ⟨g, 0, none⟩) (n + m) cap) e size (n + m) (xs ++ cs.toList)) :: H) (putd ρ d (.slice (some ⟨g, 0, none⟩) (n + m) cap))) :
    GO E ⟨d, .call { callee := .builtin .append, args := #[s, x], argTypes := #[T, T] }, t, pos, after, gd⟩ K H ρ :=
  GO.append k hk ht hz hs hb hzs hsz hv hx (by simpa using hl) (fun w hw j u hu => by
    obtain ⟨S, _, _, hbx⟩ := hw.get hkb
    rw [addr_add, Nat.zero_add, cell_of_box hbx]
    simpa using hu) h1 h63 hbytes hm hd h
def evp (ρ : Regs) : List (Nat × Operand) → Option (List (Nat × Value))
  | [] => some []
  | (i, x) :: r => match ev ρ x, evp ρ r with
    | some v, some vs => some ((i, v) :: vs)
    | _, _ => none
theorem Agree.evalp {n : Nat} {D : List Nat} {a : Act} {ρ : Regs} (h : Agree n D a ρ) : ∀ {ps : List (Nat × Operand)} {vs : List (Nat × Value)}, evp ρ ps = some vs → ps.map (fun p => (p.1, a.eval p.2)) = vs
  | [], vs, hx => by simpa [evp] using hx
  | (i, x) :: r, vs, hx => by
    unfold evp at hx
    cases h1 : ev ρ x with
    | none => rw [h1] at hx; cases hx
    | some v =>
      cases h2 : evp ρ r with
      | none => rw [h1, h2] at hx; cases hx
      | some us =>
        rw [h1, h2] at hx
        rw [List.map_cons, h.eval h1, h.evalp h2]
        exact Option.some.inj hx
/-- The cells of a literal slice. -/
def sliceCells (z : Value) (size len : Nat) (ps : List (Nat × Value)) : Option (Array Value) := Instr.fill (fun i => some (i * size, size)) ((Array.range (len * size)).map (z.cells[· % z.cells.size]!)) ps
theorem GO.buildSlice (k : Nat) {T e : TypeId} {z : Value} {size len : Nat} {parts : Array (Nat × Operand)} {ps : List (Nat × Value)} {cs : Array Value} {d : Option Tmp} {t : TypeId} {pos : String} {after : Array Edge} {gd : Option (Nat × Bool)}
    (ht : E.P.underlying T = some (.slice e)) (hz : Zr E.P e z) (hs : Sz E.P e size) (hp : evp ρ parts.toList = some ps) (hpos : Nat.blt 0 (len * size) = true) (hle : Nat.ble (len * size) 16777216 = true) (hc : sliceCells z size len ps = some cs) (hd : okd E.n d = true)
    (h : ∀ b, E.base ≤ b → GK E K ((k, Dv.box b cs e) :: H) (putd ρ d (.slice (some ⟨b, 0, none⟩) len len))) : GO E ⟨d, .buildSlice T len parts, t, pos, after, gd⟩ K H ρ := fun ms a w ha hw => by
  have h0 : ¬ len * size = 0 := by have := Nat.le_of_ble_eq_true hpos; omega
  have h2 : ¬ 16777216 < len * size := by have := Nat.le_of_ble_eq_true hle; omega
  have e1 : (parts.map fun p => (p.1, a.eval p.2)).toList = ps := by rw [Array.toList_map]; exact ha.evalp hp
  have hr : (execOp a.eval ⟨d, .buildSlice T len parts, t, pos, after, gd⟩).run E.P w = .ok (.value (.slice (some ⟨w.heap.size, 0, none⟩) len len)) (w.alloc (.cells cs e)) := by
    unfold sliceCells at hc
    have e2 : (parts.map fun x => match x with | (i, x) => (i, a.eval x)).toList = ps := e1
    have e3 : parts.toList.map (fun x => match x with | (i, x) => (i, a.eval x)) = ps := by rw [← Array.toList_map]; exact e1
    simp only [execOp, Instr.buildSlice, Sem.run_bind, run_underlying ht, Result.andThen_ok, run_sz w hs]
    simp [h2, h0, run_zr w hz, e3, hc, newRow]
  unfold opW
  rw [hr]
  exact h w.heap.size hw.size ms _ _ (ha.putd hd _) (hw.alloc k cs e)
end


/-! ### a range over a function -/
/-- yield is called: one round is run, and R holds behind it. -/
def Round (P : Program) (l : Nat) (args : List Value) (W : World) (R : Ending → World → Prop) : Prop :=
  ∃ fn tmps assign body, (Instr.yield l args.toArray).run P W = .ok (.round l fn tmps assign body) W ∧ RoundIn Fence.wide 0 P l fn tmps assign body W R
theorem Round.mono {P : Program} {l : Nat} {args : List Value} {W : World} {R R' : Ending → World → Prop} (h : Round P l args W R) (hr : ∀ e w, R e w → R' e w) : Round P l args W R' := by
  obtain ⟨fn, tmps, assign, body, h1, h2⟩ := h
  exact ⟨fn, tmps, assign, body, h1, h2.mono hr⟩
/-- The name under which an iterator's own memory lies while it runs. -/
abbrev itk : Nat := 900
/-- An iterator: the function gf with what it has captured; its memory A; what it yields. Whatever the rounds do to their own memory. -/
structure IterAt (P : Program) (G : World → Prop) (A : Asrt) (gf : FuncId) (lb : List Value) {α : Type} (enc : α → List Value) (xs : List α) : Prop where
  enters : Enters P gf
  run : ∀ (E : Env), E.P = P → E.base = E.w0.heap.size → G E.w0 → ∀ {σ τ : Type} (rel : List α → σ → Prop) (H : σ → Heap) (out : List α → τ → Prop) (Hx : τ → Heap) (l : Nat) (W : World) (s0 : σ),
    (∀ (X : Asrt) (pre : List α) (x : α) (s : σ) (W : World), pre ++ [x] <+: xs → rel pre s → Own E [] ((itk, X) :: H s) W →
      Round P l (enc x) W fun e W' => (e = .returned (.bool true) ∧ ∃ s', rel (pre ++ [x]) s' ∧ Own E [] ((itk, X) :: H s') W') ∨ (e = .returned (.bool false) ∧ ∃ t, out (pre ++ [x]) t ∧ Own E [] ((itk, X) :: Hx t) W')) →
    rel [] s0 → Own E [] ((itk, A) :: H s0) W →
    Calls P gf (Value.func (.yield l) #[] #[] :: lb).toArray W fun e W' => (∃ v, e = .returned v) ∧ ((∃ s X, rel xs s ∧ Own E [] ((itk, X) :: H s) W') ∨ (∃ pre t X, pre <+: xs ∧ out pre t ∧ Own E [] ((itk, X) :: Hx t) W'))

section
variable {E : Env} {H : Heap} {ρ : Regs} {K : Act → World → Prop} {Q : Exit → Act → World → Prop}
/-- The slots of a round: the loop's own, and what yield was handed. -/
def bindPs (ρ : Regs) : List Tmp → List Value → Regs
  | p :: ps, v :: vs => bindPs ((p, v) :: ρ) ps vs
  | _, _ => ρ
theorem agree_bind : ∀ (ps : List Tmp) (vs : List Value) (ρ : Regs) (a : Array Value), (∀ p ∈ ps, p < a.size) → (∀ t v, look ρ t = some v → t < a.size ∧ a[t]? = some v) →
    ∀ t v, look (bindPs ρ ps vs) t = some v → t < ((ps.zip vs).foldl (fun t (p : Nat × Value) => t.setIfInBounds p.1 p.2) a).size ∧ ((ps.zip vs).foldl (fun t (p : Nat × Value) => t.setIfInBounds p.1 p.2) a)[t]? = some v
  | [], vs, ρ, a, _, h, t, v, ht => by simpa [bindPs] using h t v ht
  | p :: ps, [], ρ, a, _, h, t, v, ht => by simpa [bindPs] using h t v ht
  | p :: ps, u :: vs, ρ, a, hp, h, t, v, ht => by
    simp only [List.zip_cons_cons, List.foldl_cons]
    refine agree_bind ps vs ((p, u) :: ρ) (a.setIfInBounds p u) (fun q hq => by simpa using hp q (by simp [hq])) (fun t v ht => ?_) t v ht
    rw [look_cons] at ht
    by_cases e : p = t
    · subst e
      rw [if_pos rfl] at ht
      have hlt := hp p (by simp)
      exact ⟨by simpa using hlt, by rw [Array.getElem?_setIfInBounds_self_of_lt hlt]; exact ht⟩
    · rw [if_neg e] at ht
      obtain ⟨h1, h2⟩ := h t v ht
      exact ⟨by simpa using h1, by rw [Array.getElem?_setIfInBounds_ne e]; exact h2⟩
theorem size_bind : ∀ (l : List (Nat × Value)) (a : Array Value), (l.foldl (fun t (p : Nat × Value) => t.setIfInBounds p.1 p.2) a).size = a.size
  | [], a => rfl
  | (p, v) :: l, a => by rw [List.foldl_cons, size_bind l]; simp

/-- How a round's body may be left. -/
def roundQ (E : Env) {α σ τ : Type} (rel : List α → σ → Prop) (H : σ → Heap) (out : Code → List α → τ → Prop) (Hx : τ → Heap) (pre : List α) : Exit → Act → World → Prop
  | .normal, _, w => ∃ s ms, rel pre s ∧ Own E ms (H s) w
  | .ret, _, w => ∃ t ms, out .ret pre t ∧ Own E ms (Hx t) w
  | .exit id, _, w => ∃ t ms, out (.exit id) pre t ∧ Own E ms (Hx t) w
  | .goto l, _, w => ∃ t ms, out (.goto l) pre t ∧ Own E ms (Hx t) w
  | _, _, _ => False
theorem Own.env {E' : Env} {ms : List Nat} {w : World} (h : Own E ms H w) (h1 : E'.w0 = E.w0) (h2 : E'.base = E.base) (h3 : E'.Z = E.Z) : Own E' ms H w :=
  ⟨by rw [h1, h2]; exact h.below, by rw [h2]; exact h.size, by rw [h2, h3]; exact h.lies⟩
theorem Own.unhide {Z A : Asrt} {ms : List Nat} {w : World} (h : Own { E with Z := star Z A } ms H w) (k : Nat) : Own { E with Z := Z } ms ((k, A) :: H) w := h.unlay k
theorem hdrop_cons {k : Nat} {A : Asrt} : HSub (hdrop k ((k, A) :: H)) H := fun i B hi => by
  rw [hlook_hdrop] at hi
  by_cases e : i = k
  · rw [if_pos e] at hi; cases hi
  · rw [if_neg e, hlook_cons, if_neg (fun h => e h.symm)] at hi; exact hi
/-- A name's part laid aside, and the table cut down. -/
theorem Own.lay' {ms : List Nat} {w : World} {k : Nat} {A : Asrt} (h : Own E ms ((k, A) :: H) w) : Own { E with Z := star E.Z A } ms (hdrop k H) w :=
  (h.lay (k := k) (A := A) (by rw [hlook_cons, if_pos rfl])).sub (fun i B hi => by
    rw [hlook_hdrop] at hi ⊢
    by_cases e : i = k
    · rw [if_pos e] at hi; cases hi
    · rw [if_neg e] at hi; rw [if_neg e, hlook_cons, if_neg (fun h => e h.symm)]; exact hi)
theorem Own.noMarks {ms : List Nat} {w : World} (h : Own E ms H w) : Own E [] H w :=
  ⟨h.below, h.size, h.lies.weak fun i A hi => by
    cases i with
    | marks => exact ⟨_, rfl, fun S _ => by cases hi; exact ⟨List.nodup_nil, fun _ h => by cases h⟩⟩
    | aside => exact ⟨A, hi, fun _ h => h⟩
    | at_ k => exact ⟨A, hi, fun _ h => h⟩⟩
theorem Own.mark {ms : List Nat} {w : World} (h : Own E ms H w) : Own E (w.heap.size :: ms) H (w.alloc (.deferred (some []))) := by
  obtain ⟨h1, h2⟩ := h.lies.turn (q := part E.Z (w.heap.size :: ms) H) (w' := w.alloc (.deferred (some []))) h.size (by simp) .marks (fun i hi => by cases i <;> first | rfl | exact absurd rfl hi) (fun S hS hb => by
    obtain ⟨n1, n2⟩ := hS _ rfl
    refine ⟨fun b hb' _ => heap_alloc_old w _ b hb', fun A hA => ?_⟩
    rw [← Option.some.inj hA]
    refine ⟨List.nodup_cons.2 ⟨fun hm => ?_, n1⟩, fun m hm => ?_⟩
    · have := (hb _ (n2 _ hm).1).2
      omega
    · rcases List.mem_cons.1 hm with rfl | hm
      · exact ⟨.inr (new_alloc w _), heap_alloc_new w _⟩
      · obtain ⟨p1, p2⟩ := n2 m hm
        exact ⟨.inl p1, by rw [heap_alloc_old w _ m (hb m p1).2]; exact p2⟩)
  exact ⟨h.below.trans ((below_alloc w _).mono h.size), by simp; have := h.size; omega, h1⟩
theorem setLoop {w : World} {l : Nat} {r r' : Loop} : (objA l (.loop r)).holds = fun S w => S l ∧ w.heap[l]? = some (.loop r) := rfl
/-- The loop's record, kept aside, is turned. -/
theorem Own.setZ {ms : List Nat} {w : World} {Z : Asrt} {l : Nat} {o o' : Obj} (h : Own { E with Z := star Z (objA l o) } ms H w) : w.heap[l]? = some o ∧ Own { E with Z := star Z (objA l o') } ms H (w.putObj l o') := by
  obtain ⟨S, hS, S1, S2, s1, s2, s3, s4, s5, s6⟩ := h.getZ
  refine ⟨s6, ?_⟩
  have hlt : l < w.heap.size := (Array.getElem?_eq_some_iff.1 s6).1
  exact Own.turnZ (E := { E with Z := star Z (objA l o) }) h (by simp) rfl rfl rfl fun S ⟨S1, S2, s1, s2, s3, s4, s5, s6⟩ hb => ⟨fun b hb' hn => World.putObj_heap_other (fun e => hn (by rw [e]; exact s2 l s5)), S1, S2, fun b hb => .inl (s1 b hb), fun b hb => .inl (s2 b hb), s3,
    Z.loc S1 w _ (fun b hb' => World.putObj_heap_other (fun e => s3 b hb' (by rw [e]; exact s5))) s4, s5, World.putObj_heap_same hlt⟩
/-- The same under a name. -/
theorem Own.setAt {ms : List Nat} {w : World} {k l : Nat} {o o' : Obj} (h : Own E ms H w) (hk : hlook H k = some (objA l o)) : w.heap[l]? = some o ∧ Own E ms ((k, objA l o') :: H) (w.putObj l o') := by
  obtain ⟨S, hS, s1, s2⟩ := h.get hk
  have hlt : l < w.heap.size := (Array.getElem?_eq_some_iff.1 s2).1
  exact ⟨s2, h.turn hk (by simp) rfl rfl rfl fun S ⟨s1, s2⟩ hb => ⟨fun b hb' hn => World.putObj_heap_other (fun e => hn (by rw [e]; exact s1)), .inl s1, World.putObj_heap_same hlt⟩⟩
abbrev lpk : Nat := 901
theorem hsub_drop {k : Nat} {H' : Heap} (hs : HSub H' H) (hn : hlook H' k = none) : HSub H' (hdrop k H) := fun i A hi => by
  rw [hlook_hdrop]
  by_cases e : i = k
  · rw [e, hn] at hi; cases hi
  · rw [if_neg e]; exact hs i A hi
theorem hsub_tail {k : Nat} {A : Asrt} {H' : Heap} (hs : HSub H' H) (hn : hlook H' k = none) : HSub H' ((k, A) :: H) := fun i B hi => by
  rw [hlook_cons]
  by_cases e : k = i
  · rw [← e, hn] at hi; cases hi
  · rw [if_neg e]; exact hs i B hi
set_option maxHeartbeats 1000000 in
/-- **A range over a function.** -/
theorem GC.range {α σ τ ι : Type} {g : Operand} {ps : Array Tmp} {assign body : Code} {gf : FuncId} {lb : List Value} {G : World → Prop} {A : Asrt} {enc : α → List Value} {xs : List α} (k : Nat)
    (hR : E.R = none) (hg : ev ρ g = some (.func (.func gf) #[] lb.toArray)) (hk : hlook H k = some A) (hit : IterAt E.P G A gf lb enc xs) (hb0 : E.base = E.w0.heap.size) (hG : G E.w0) (hps : ∀ x, (enc x).length = ps.size) (hpn : ps.toList.all (fun p => Nat.blt p E.n) = true)
    (rel : List α → σ → Prop) (Hs : σ → Heap) (out : Code → List α → τ → Prop) (Hx : τ → Heap) (s0 : σ) (h0 : rel [] s0) (hH0 : HSub (Hs s0) (hdrop k H))
    (hno : ∀ s, hlook (Hs s) itk = none ∧ hlook (Hs s) lpk = none) (hnx : ∀ t, hlook (Hx t) itk = none ∧ hlook (Hx t) lpk = none)
    (J1 : α → σ → ι → Prop) (H1 : α → σ → ι → Heap) (ρ1 : α → σ → ι → Regs)
    (hassign : ∀ (Z : Asrt) (l : Nat) (pre : List α) (x : α) (s : σ), pre ++ [x] <+: xs → rel pre s →
      GC { E with R := some l, Z := Z } assign (Exit.then (fun a w => ∃ i ms, J1 x s i ∧ Agree E.n ms a (ρ1 x s i) ∧ Own { E with R := some l, Z := Z } ms (H1 x s i) w) (fun _ _ _ => False)) (Hs s) (bindPs ρ ps.toList (enc x)))
    (hbody : ∀ (Z : Asrt) (l : Nat) (pre : List α) (x : α) (s : σ) (i : ι), pre ++ [x] <+: xs → rel pre s → J1 x s i →
      GC { E with R := some l, Z := Z } body (roundQ { E with R := some l, Z := Z } rel Hs out Hx (pre ++ [x])) (H1 x s i) (ρ1 x s i))
    (hdone : ∀ s, rel xs s → GE E Q .normal (Hs s) ρ) (hstop : ∀ c pre t, pre <+: xs → out c pre t → GC E c Q (Hx t) ρ) : GC E (.rangeFunc g ps assign body) Q H ρ := fun ms a w ha hw => by
  show (Code.rangeFunc g ps assign body).wpIn (fence E.R) 0 E.P Q a w
  have hf : fence E.R = Fence.wide := by rw [hR]; rfl
  rw [hf]
  refine wpIn_rangeFunc ?_
  intro fn hfn
  obtain ⟨rec, hrec⟩ : ∃ rec : LoopState → Option Code → Loop, rec = fun st pe => { state := st, pending := pe, fn, tmps := a.tmps, params := ps, assign, body, defers := w.heap.size } := ⟨_, rfl⟩
  obtain ⟨l, hl⟩ : ∃ l, l = w.heap.size + 1 := ⟨_, rfl⟩
  obtain ⟨W1, hW1⟩ : ∃ W1, (w.alloc (.deferred (some []))).alloc (.loop (rec .ready none)) = W1 := ⟨_, rfl⟩
  obtain ⟨E1, hE1⟩ : ∃ E1 : Env, E1 = { E with Z := star E.Z (marksA (w.heap.size :: ms)) } := ⟨_, rfl⟩
  -- where the loop begins
  have hO1 : Own E1 [] ((itk, A) :: (lpk, objA l (.loop (rec .ready none))) :: Hs s0) W1 := by
    have g1 : Own E ms ((itk, A) :: Hs s0) w := ((hw.lay hk).sub hH0).unlay itk
    have g2 := g1.mark.layMarks
    rw [← hE1] at g2
    have g3 := g2.more (below_alloc _ (.loop (rec .ready none))) lpk (objA l (.loop (rec .ready none))) ⟨by rw [hl]; have := new_alloc (w.alloc (.deferred (some []))) (.loop (rec .ready none)); rwa [World.size_alloc] at this, by
      rw [hl]; have := heap_alloc_new (w.alloc (.deferred (some []))) (.loop (rec .ready none)); rwa [World.size_alloc] at this⟩
    rw [hW1] at g3
    refine g3.sub (fun i B hi => ?_)
    rw [hlook_cons] at hi ⊢
    by_cases e : itk = i
    · rw [if_pos e] at hi
      rw [if_neg (by rw [← e]; decide), hlook_cons, if_pos e]
      exact hi
    · rw [if_neg e, hlook_cons] at hi
      rw [hlook_cons, if_neg e]
      exact hi
  refine ⟨l, [{ target := .collected w.heap.size, args := #[] }], W1, { target := .fn (.func gf) lb.toArray, args := #[.func (.yield l) #[] #[]] }, W1, gf, (Value.func (.yield l) #[] #[] :: lb).toArray, W1, ?_, ?_, fun _ _ => trivial, ?_, fun h => by simp [Fence.wide] at h, ?_⟩
  · rw [← hW1, hrec, hl]; exact run_enterLoop_outer fn a.tmps ps assign body
  · simp only [resolve, ha.eval hg]
    simp [go_sem]
  · have e : #[Value.func (.yield l) #[] #[]] ++ lb.toArray = (Value.func (.yield l) #[] #[] :: lb).toArray := by simp
    show (callFunc gf (#[Value.func (.yield l) #[] #[]] ++ lb.toArray)).run E.P W1 = _
    rw [e]
    exact hit.enters.run _ _
  · refine callsIn_wide.2 ((hit.run E1 (by rw [hE1]) (by rw [hE1]; exact hb0) (by rw [hE1]; exact hG) rel (fun s => (lpk, objA l (.loop (rec .ready none))) :: Hs s) (fun pre (t : Code × τ) => out t.1 pre t.2) (fun t => (lpk, objA l (.loop (rec .done (some t.1)))) :: Hx t.2) l W1 s0 ?_ h0 hO1).mono ?_)
    · -- one round
      intro X pre x s W hpre hrel hO
      have hheap : W.heap[l]? = some (.loop (rec .ready none)) := by
        obtain ⟨S, _, _, h⟩ := hO.get (k := lpk) (A := objA l (.loop (rec .ready none))) (by rw [hlook_cons, if_neg (by decide), hlook_cons, if_pos rfl])
        exact h
      have hy := run_yield (P := E.P) (args := (enc x).toArray) hheap (by rw [hrec]; simp [hps])
      rw [hrec] at hy
      -- the round's frame; what is kept aside
      have q1 : Own { E1 with Z := star E1.Z X } [] ((lpk, objA l (.loop (rec .ready none))) :: Hs s) W := (hO.lay').sub (hsub_drop (HSub.refl _) (by rw [hlook_cons, if_neg (by decide)]; exact (hno s).1))
      have q2 : Own { E1 with Z := star (star E1.Z X) (objA l (.loop (rec .ready none))) } [] (Hs s) W := (Own.lay' (E := { E1 with Z := star E1.Z X }) q1).sub (hsub_drop (HSub.refl _) (hno s).2)
      have q3 : Own { E with R := some l, Z := star (star E1.Z X) (objA l (.loop (rec .ready none))) } [] (Hs s) W := q2.env (by rw [hE1]) (by rw [hE1]) rfl
      refine ⟨fn, _, assign, body, hy, roundIn_of_wpIn trivial ?_⟩
      have hag : Agree E.n [] { tmps := (ps.zip (enc x).toArray).foldl (fun t (p : Nat × Value) => t.setIfInBounds p.1 p.2) a.tmps, defers := [] } (bindPs ρ ps.toList (enc x)) := by
        have hp : ∀ p ∈ ps.toList, p < a.tmps.size := fun p hp => by
          rw [ha.size]; exact Nat.le_of_ble_eq_true (List.all_eq_true.1 hpn p hp)
        have hzip : (ps.zip (enc x).toArray).toList = ps.toList.zip (enc x) := by simp
        have hz : (ps.zip (enc x).toArray).foldl (fun t (p : Nat × Value) => t.setIfInBounds p.1 p.2) a.tmps = (ps.toList.zip (enc x)).foldl (fun t (p : Nat × Value) => t.setIfInBounds p.1 p.2) a.tmps := by
          rw [← Array.foldl_toList, hzip]
        refine ⟨rfl, ?_, fun t v ht => ?_⟩
        · show ((ps.zip (enc x).toArray).foldl (fun t (p : Nat × Value) => t.setIfInBounds p.1 p.2) a.tmps).size = E.n
          rw [hz, size_bind]; exact ha.size
        · have := agree_bind ps.toList (enc x) ρ a.tmps hp (fun t v ht => by have := ha.at_ t v ht; rw [ha.size]; exact this) t v ht
          show t < E.n ∧ ((ps.zip (enc x).toArray).foldl (fun t (p : Nat × Value) => t.setIfInBounds p.1 p.2) a.tmps)[t]? = some v
          rw [hz]
          refine ⟨?_, this.2⟩
          have h1 := this.1
          rw [size_bind, ha.size] at h1
          exact h1
      refine wpIn_mono (hassign _ l pre x s hpre hrel [] _ W hag q3) ?_
      rintro e a1 w1 hp
      cases e with
      | normal =>
        obtain ⟨i, ms1, hJ, hag1, hO2⟩ := hp
        obtain ⟨hh1, hO3⟩ := Own.setZ (E := { E with R := some l }) (o' := .loop { rec .ready none with state := .busy }) hO2
        refine ⟨_, run_beginRound hh1 (by rw [hrec]), wpIn_mono (hbody _ l pre x s i hpre hrel hJ ms1 a1 _ hag1 hO3) ?_⟩
        have fin : ∀ (jump : Option Code) (Hf : Heap) (ms2 : List Nat) (W3 : World), (hlook Hf itk = none ∧ hlook Hf lpk = none) → Own { E with R := some l, Z := star (star E1.Z X) (objA l (.loop { rec .ready none with state := .busy })) } ms2 Hf W3 →
            (Instr.endRound l jump).run E.P W3 = .ok (.bool jump.isNone) (W3.putObj l (.loop (rec (if jump.isNone then .ready else .done) jump))) ∧ Own E1 [] ((itk, X) :: (lpk, objA l (.loop (rec (if jump.isNone then .ready else .done) jump))) :: Hf) (W3.putObj l (.loop (rec (if jump.isNone then .ready else .done) jump))) := by
          intro jump Hf ms2 W3 hn hO4
          obtain ⟨hh2, hO5⟩ := Own.setZ (E := { E with R := some l }) (o' := .loop (rec (if jump.isNone then .ready else .done) jump)) hO4
          have hr := run_endRound (P := E.P) jump hh2
          rw [hrec] at hr ⊢
          refine ⟨hr, ?_⟩
          rw [hrec] at hO5
          have r1 := Own.unhide (E := { E with R := some l }) (Z := star E1.Z X) hO5.noMarks lpk
          have r2 := Own.unhide (E := { E with R := some l }) (Z := E1.Z) r1 itk
          exact r2.env (by rw [hE1]) (by rw [hE1]) rfl
        rintro e a3 W3 hp3
        cases e with
        | normal =>
          obtain ⟨s', ms2, hrel', hO4⟩ := hp3
          obtain ⟨hr, hO6⟩ := fin none (Hs s') ms2 W3 (hno s') hO4
          exact ⟨_, _, hr, .inl ⟨rfl, s', hrel', hO6⟩⟩
        | ret =>
          obtain ⟨t', ms2, hout, hO4⟩ := hp3
          obtain ⟨hr, hO6⟩ := fin (some .ret) (Hx t') ms2 W3 (hnx t') hO4
          exact ⟨_, _, hr, .inr ⟨rfl, (.ret, t'), hout, hO6⟩⟩
        | exit id =>
          obtain ⟨t', ms2, hout, hO4⟩ := hp3
          obtain ⟨hr, hO6⟩ := fin (some (.exit id)) (Hx t') ms2 W3 (hnx t') hO4
          exact ⟨_, _, hr, .inr ⟨rfl, (.exit id, t'), hout, hO6⟩⟩
        | goto lb' =>
          obtain ⟨t', ms2, hout, hO4⟩ := hp3
          obtain ⟨hr, hO6⟩ := fin (some (.goto lb')) (Hx t') ms2 W3 (hnx t') hO4
          exact ⟨_, _, hr, .inr ⟨rfl, (.goto lb', t'), hout, hO6⟩⟩
        | panic ch => exact hp3.elim
        | outgrown => exact hp3.elim
      | exit id => exact hp.elim
      | goto t => exact hp.elim
      | ret => exact hp.elim
      | panic ch => exact hp.elim
      | outgrown => exact hp.elim
    · -- behind the iterator
      have hag' : Agree E.n (w.heap.size :: ms) { a with defers := [{ target := .collected w.heap.size, args := #[] }] ++ a.defers } ρ := ⟨by simp [marks, ha.defers], ha.size, ha.at_⟩
      rintro e W2 ⟨⟨v, rfl⟩, h⟩
      subst hrec
      subst hE1
      rcases h with ⟨s, X, hrel, hO⟩ | ⟨pre, ⟨c, t⟩, X, hpre, hout, hO⟩
      · obtain ⟨hh, hO2⟩ := hO.setAt (k := lpk) (o' := .loop { state := .exhausted, pending := none, fn, tmps := a.tmps, params := ps, assign, body, defers := w.heap.size }) (by rw [hlook_cons, if_neg (by decide), hlook_cons, if_pos rfl])
        have h9 := run_endLoop (P := E.P) hh (by simp)
        have hO3 := (hO2.sub (hsub_tail (hsub_tail (hsub_tail (HSub.refl _) (hno s).2) (hno s).1) (hno s).2)).unlayMarks (E := E)
        exact ⟨none, _, h9, hdone s hrel _ _ _ hag' hO3⟩
      · obtain ⟨hh, hO2⟩ := hO.setAt (k := lpk) (o' := .loop { state := .exhausted, pending := some c, fn, tmps := a.tmps, params := ps, assign, body, defers := w.heap.size }) (by rw [hlook_cons, if_neg (by decide), hlook_cons, if_pos rfl])
        have h9 := run_endLoop (P := E.P) hh (by simp)
        have hO3 := (hO2.sub (hsub_tail (hsub_tail (hsub_tail (HSub.refl _) (hnx t).2) (hnx t).1) (hnx t).2)).unlayMarks (E := E)
        have h10 := hstop c pre t hpre hout _ _ _ hag' hO3
        unfold cW at h10
        rw [hf] at h10
        exact ⟨some c, _, h9, h10⟩
/-- The marks go with a name's part, and come back. -/
theorem Own.joinMarks {ms : List Nat} {w : World} {k : Nat} {A : Asrt} (h : Own E ms ((k, A) :: H) w) : Own E [] ((k, star A (marksA ms)) :: H) w :=
  ⟨h.below, h.size, h.lies.join (q := part E.Z [] ((k, star A (marksA ms)) :: H)) (.at_ k) .marks (fun e => by cases e) part_same rfl (fun i h1 h2 => by
    rw [part_cons i h1, part_cons i h1]
    cases i <;> first | rfl | exact absurd rfl h2) part_same (fun C hC S => by
    rw [← Option.some.inj hC]
    exact ⟨List.nodup_nil, fun _ h => by cases h⟩)⟩
theorem Own.splitMarks {ms ms' : List Nat} {w : World} {k : Nat} {A : Asrt} (h : Own E ms' ((k, star A (marksA ms)) :: H) w) : Own E ms ((k, A) :: H) w :=
  ⟨h.below, h.size, h.lies.split (q := part E.Z ms ((k, A) :: H)) (.at_ k) .marks (fun e => by cases e) part_same (fun i h1 h2 => by
    rw [part_cons i h1, part_cons i h1]
    cases i <;> first | rfl | exact absurd rfl h2) part_same rfl⟩
/-- yield is called in an iterator: the round of the one who ranges. -/
theorem GO.yield {l : Nat} {x : Operand} {args : Array Operand} {ts : Array TypeId} {vs : List Value} {d : Option Tmp} {t : TypeId} {pos : String} {after : Array Edge} {gd : Option (Nat × Bool)} {ω : Type} (φ : Bool → ω → Prop) (Hn : ω → Heap) (H0 : Heap) (X : Asrt)
    (hf : ev ρ x = some (.func (.yield l) #[] #[])) (hv : evs ρ args.toList = some vs) (hd : okd E.n d = true) (hX : HSub ((itk, X) :: H0) H)
    (hY : ∀ (X : Asrt) (W : World), Own E [] ((itk, X) :: H0) W → Round E.P l vs W fun e W' => ∃ b i, e = .returned (.bool b) ∧ φ b i ∧ Own E [] ((itk, X) :: Hn i) W')
    (h : ∀ b i, φ b i → GK E K ((itk, X) :: Hn i) (putd ρ d (.bool b))) : GO E ⟨d, .call { callee := .value x, args := args, argTypes := ts }, t, pos, after, gd⟩ K H ρ := fun ms a w ha hw => by
  have e1 : args.map a.eval = vs.toArray := by rw [← ha.evals hv, ← Array.toList_map, Array.toArray_toList]
  -- the iterator's marks go with its own memory
  obtain ⟨fn, tmps, assign, body, hy, hr⟩ := hY (star X (marksA ms)) w (hw.sub hX).joinMarks
  have hr' : (execOp a.eval ⟨d, .call { callee := .value x, args := args, argTypes := ts }, t, pos, after, gd⟩).run E.P w = .ok (.round l fn tmps assign body) w := by
    simp only [execOp, resolve, e1, ha.eval hf, Deferred.ofValue, Sem.run_bind, Sem.run_pure, Result.andThen_ok, invoke]
    simpa using hy
  unfold opW
  rw [hr']
  refine hr.mono ?_
  rintro e w' ⟨b, i, rfl, hφ, hO⟩
  exact ⟨.bool b, rfl, h b i hφ ms _ w' (ha.putd hd _) hO.splitMarks⟩
end
/-- A function's contract from its body, whatever memory the caller has laid open to it. -/
theorem calls_at {E : Env} {H : Heap} {f : FuncId} {fn : Func} {c : Code} {args : List Value} {w : World} {R : Ending → World → Prop} (hf : E.P.funcs[f]? = some fn) (hb : fn.body = some c) (hn : Nat.ble args.length fn.ntmps = true)
    (hw : Own E [] H w) (h : GC { E with n := fn.ntmps, R := none } c (fnPost E.P fn R) H (argRegs args 0)) : Calls E.P f args.toArray w R := by
  have hn' : args.length ≤ fn.ntmps := Nat.le_of_ble_eq_true hn
  refine (callsIn_wide (n := 0)).1 (callsIn_of_wp_marks hf hb trivial (h [] _ w ⟨rfl, ?_, ?_⟩ (hw.env rfl rfl rfl)))
  · simp; omega
  · intro t v ht
    obtain ⟨_, h2⟩ := look_argRegs args 0 t v ht
    rw [Nat.sub_zero] at h2
    have hlt : t < args.length := (List.getElem?_eq_some_iff.1 h2).1
    refine ⟨Nat.lt_of_lt_of_le hlt hn', ?_⟩
    rw [Array.getElem?_append_left (by simpa using hlt)]
    simpa using h2
end Go.Proofs.YtligejpfbcdpmaaDoor.Dv
