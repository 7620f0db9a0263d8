/- What a law's argument (three rows of bytes) and a laid table of bytes give a walk.
   No condition. -/
import Derived.Test.YtligejpfbcdpmaaDoorRows
import Derived.Test.YtligejpfbcdpmaaDoorS7
import Derived.ProofKit
import Derived.LaidMore
import Derived.LaidLaws
import Derived.Carry
import Derived.Stop.Joined
import Derived.Lib.SmallJoins
namespace Go.Proofs.YtligejpfbcdpmaaDoor
open Go.Proofs.YtligejpfbcdpmaaDoor.Dv Go.RowKit Go.ChangeShapes Go.WideShapes Go.ChangeAt
set_option linter.unusedVariables false
set_option maxRecDepth 100000

theorem pick_all {α : Type} (P : Nat → α → Prop) : ∀ n, (∀ i, i < n → ∃ b, P i b) → ∃ l : List α, l.length = n ∧ ∀ i x, l[i]? = some x → P i x
  | 0, _ => ⟨[], rfl, fun i x h => by cases h⟩
  | n + 1, h => by
    obtain ⟨l, hl, hp⟩ := pick_all P n (fun i hi => h i (by omega))
    obtain ⟨b, hb⟩ := h n (by omega)
    refine ⟨l ++ [b], by simp [hl], fun i x hx => ?_⟩
    rw [List.getElem?_append] at hx
    split at hx
    · exact hp i x hx
    · rename_i hi
      have e : i - l.length = 0 := by
        have := (List.getElem?_eq_some_iff.1 hx).1
        simp at this; omega
      rw [e] at hx
      have : i = n := by omega
      subst this
      simp at hx
      subst hx
      exact hb
theorem u8_wf {n : Int} (h : (Lit.int .u8 n).wf = true) : ∃ b : UInt8, n = b.toNat := by
  have h2 : 0 ≤ n ∧ n ≤ 255 := by
    simp [Lit.wf, IntKind.min, IntKind.max, IntKind.wrap, IntKind.signed, IntKind.bits] at h
    omega
  refine ⟨UInt8.ofNat n.toNat, ?_⟩
  simp [UInt8.toNat_ofNat']
  omega
section
variable {H : Type} {enc : TypeId × Value → H} {W : World} {sp : Nat → Bool} {held : Bool}
theorem bytes_sl {fuel : Nat} {v : Value} {y : DataW H × List MemPlace} (h : DataW.trod enc Tryd.prog W 0 sp held fuel 22 [v] = some y) : ∃ G : List UInt8, IsSl W v (G.map u8v) ∧ G.length ≤ 9223372036854775807 := by
  have c5 : Tryd.prog.cellsOf 5 = 1 := by kernel_rfl
  rcases DataW.trod_slice Tryd.underlying22 h with ⟨hv, _⟩ | ⟨a, len, cap, elems, rest, n, _, hcs, hx, _, hl, hm, hlen, hel, _⟩
  · obtain rfl : v = .slice none 0 0 := by simpa using hv
    exact ⟨[], isSl_nil W, Nat.zero_le _⟩
  · obtain rfl : v = .slice (some a) len cap := by simpa using hcs
    have key : ∀ i, i < len → ∃ b : UInt8, W.cell? (a.add i) = some (u8v b) := fun i hi => by
      have hE := hel i hi
      rw [c5, Nat.mul_one, List.getElem?_eq_getElem (by omega)] at hE
      simp only [Option.bind_eq_some_iff] at hE
      obtain ⟨c1, hc1, hy1⟩ := hE
      have e0 : (a.add i).add 0 = a.add i := by simp [Addr.add]
      obtain ⟨c, rfl, hcell⟩ : ∃ c, c1 = [c] ∧ W.cell? (a.add i) = some c := by
        unfold World.cells? at hc1
        split at hc1
        · simp only [List.range_succ, List.range_zero, List.nil_append, List.mapM_cons, List.mapM_nil, e0] at hc1
          cases hcc : W.cell? (a.add i) with
          | none => simp [hcc] at hc1
          | some c => simp [hcc] at hc1; exact ⟨c, hc1.symm, rfl⟩
        · cases hc1
      obtain ⟨k, e1, _, hk⟩ := DataW.trod_int Tryd.underlying5 hy1
      obtain ⟨b, rfl⟩ := u8_wf hk
      refine ⟨b, ?_⟩
      rw [hcell]
      simp at e1
      rw [e1]; rfl
    obtain ⟨G, hG, hp⟩ := pick_all _ len key
    refine ⟨G, ⟨some a, cap, by simp [hG], by simpa [hG] using hl, fun j x hj => ?_⟩, by rw [hG]; exact Nat.le_trans hl (Nat.le_trans hm (by decide))⟩
    rw [List.getElem?_map, Option.map_eq_some_iff] at hj
    obtain ⟨b, hb, rfl⟩ := hj
    have hc := hp j b hb
    have h0 := (List.getElem?_eq_some_iff.1 hb).1
    obtain ⟨b0, hb0⟩ := key 0 (by omega)
    have hs : a.spot = none := by
      rw [show a.add 0 = a from rfl] at hb0
      unfold World.cell? at hb0
      split at hb0
      · split at hb0
        · cases hb0
        · rename_i hn; simpa using hn
      · cases hb0
    obtain ⟨ab, ao, az⟩ := a
    simp only at hs
    subst hs
    exact ⟨ab, ao, rfl, by rw [addr_add] at hc; exact hc⟩
theorem open_plain {v : Value} {d : DataW H} {p : List MemPlace} {r : Reach} {b0 : Nat} (hv : Value.okWide Tryd.prog W r b0 24 v) (h : DataW.Trod enc Tryd.prog W 0 sp held 24 v d p) :
    ∃ (gv lv cv : Value) (G L C : List UInt8), v = .agg #[gv, lv, cv] ∧ IsSl W gv (G.map u8v) ∧ IsSl W lv (L.map u8v) ∧ IsSl W cv (C.map u8v) ∧ G.length ≤ 9223372036854775807 ∧ L.length ≤ 9223372036854775807 ∧ C.length ≤ 9223372036854775807 := by
  obtain ⟨c0, c1, c2, y0, y1, y2, m, rfl, rfl, rfl, hy0, hy1, hy2⟩ := Joins.open_agg3 Tryd.underlying24 (by kernel_rfl) (by kernel_rfl) hv h
  obtain ⟨G, g1, g2⟩ := bytes_sl hy0
  obtain ⟨L, l1, l2⟩ := bytes_sl hy1
  obtain ⟨C, k1, k2⟩ := bytes_sl hy2
  exact ⟨c0, c1, c2, G, L, C, rfl, g1, l1, k1, g2, l2, k2⟩
end
theorem plain_same {H : Type} {enc : TypeId × Value → H} {W W' : World} {v : Value} {d : DataW H} {ps : List MemPlace} (h : DataW.Trod enc Tryd.prog W 0 (fun _ => true) true 24 v d ps) (hb : Below W.heap.size W W') (hlt : ∀ x ∈ ps, x.block < W.heap.size) :
    DataW.Trod enc Tryd.prog W' 0 (fun b => decide (b < W.heap.size)) true 24 v d ps :=
  Below.trod (by kernel_rfl) (by kernel_rfl) (of_decide_eq_true (by kernel_rfl)) h hb hlt
end Go.Proofs.YtligejpfbcdpmaaDoor
