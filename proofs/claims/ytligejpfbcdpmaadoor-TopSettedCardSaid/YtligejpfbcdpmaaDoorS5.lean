/- Contracts: the methods of a row of flags (its number, its numbers), slices.Equal at ints.
   No condition. -/
import Derived.Test.YtligejpfbcdpmaaDoorS4
import Derived.Test.YtligejpfbcdpmaaDoorM4
namespace Go.Proofs.YtligejpfbcdpmaaDoor
open Go.Proofs.YtligejpfbcdpmaaDoor.Dv Go.RowKit
set_option linter.unusedVariables false
set_option linter.unusedSimpArgs false
attribute [local irreducible] Tryd.prog

theorem hbB_t {f : Nat → Bool} {s : Nat} (hs : s ≤ 63) (h : f (63 - (s : Int)).toNat = true) : hbB f s * 2#64 + 1#64 = hbB f (s + 1) := by
  rw [show (63 - (s : Int)).toNat = 63 - s by omega] at h
  show _ = ite _ _ _
  rw [if_pos h]
theorem hbB_f {f : Nat → Bool} {s : Nat} (hs : s ≤ 63) (h : f (63 - (s : Int)).toNat = false) : hbB f s * 2#64 = hbB f (s + 1) := by
  rw [show (63 - (s : Int)).toNat = 63 - s by omega] at h
  show _ = ite _ _ _
  rw [if_neg (by rw [h]; simp)]
theorem set_calls (f : Nat → Bool) (w : World) : RetB Tryd.prog 11 [.agg (flc f)] w (u64 (setF f)) := by
  refine calls_in Tryd.func11 rfl rfl ?_
  refine GC.seq ?_
  refine GC.region rfl ?_
  refine GL.op ?_
  refine GO.box 1 rfl rfl ?_
  intro b1 hb1
  refine GK.list ?_
  refine GL.yl (Yl.assign rfl) rfl ?_
  refine GL.nil ?_
  refine GE.then_n ?_
  refine GC.seq ?_
  refine GC.region rfl ?_
  refine GL.yl (Yl.assign rfl) rfl ?_
  refine GL.nil ?_
  refine GE.then_n ?_
  refine GC.seq ?_
  refine GC.seq ?_
  refine GC.region rfl ?_
  refine GL.yl (Yl.assign rfl) rfl ?_
  refine GL.nil ?_
  refine GE.then_n ?_
  refine GC.block ?_
  refine GC.loop (σ := Nat) (fun s => s ≤ 64) (fun s => 64 - s) (fun s => [(1, box b1 (flc f) 26)]) (fun s => [(1, .pointer (some ⟨b1, 0, none⟩)), (3, u64 (hbB f s)), (4, .int .i64 (63 - s))]) (0) ?_ ?_ ?_ ?_
  · exact Nat.zero_le _
  · exact Sub.cons rfl (Sub.cons rfl (Sub.cons rfl (Sub.nil _)))
  · exact HSub.cons rfl (HSub.nil _)
  · skip
    intro s hs
    refine GC.seq ?_
    refine GC.seq ?_
    refine GC.region rfl ?_
    refine GL.yl (Yl.move rfl) rfl ?_
    refine GL.yl (Yl.geq rfl rfl) rfl ?_
    refine GL.nil ?_
    refine GE.then_n ?_
    refine GC.cond_d rfl (fun hc => ?_) (fun hc => ?_)
    · skip
      skip
      refine GC.skip ?_
      refine GE.then_n ?_
      refine GC.seq ?_
      refine GC.block ?_
      refine GC.seq ?_
      refine GC.region rfl ?_
      refine GL.yl (Yl.move rfl) rfl ?_
      refine GL.yl (Yl.umul rfl (show ev _ _ = some (u64 2#64) from rfl)) rfl ?_
      refine GL.yl (Yl.assign rfl) rfl ?_
      refine GL.nil ?_
      refine GE.then_n ?_
      refine GC.seq ?_
      refine GC.region rfl ?_
      refine GL.yl (Yl.move rfl) rfl ?_
      refine GL.yl (Yl.indexArr Tryd.underlying26 T.sz4 rfl rfl (by omega) (by omega)) rfl ?_
      refine GL.yl (Yl.load 1 rfl T.sc4 rfl (flc_at f (by omega) (by omega))) rfl ?_
      refine GL.nil ?_
      refine GE.then_n ?_
      refine GC.cond_b rfl (fun hf => ?_) (fun hf => ?_)
      · skip
        refine GC.region rfl ?_
        refine GL.yl (Yl.move rfl) rfl ?_
        refine GL.yl (Yl.uadd rfl (show ev _ _ = some (u64 1#64) from rfl)) rfl ?_
        refine GL.yl (Yl.assign rfl) rfl ?_
        refine GL.nil ?_
        refine GE.in_n ?_
        refine GE.then_n ?_
        refine GC.region rfl ?_
        refine GL.yl (Yl.move rfl) rfl ?_
        refine GL.yl (Yl.sub rfl rfl (by omega) (by omega)) rfl ?_
        refine GL.yl (Yl.assign rfl) rfl ?_
        refine GL.nil ?_
        refine GE.again (s + 1) (by omega) (by omega) ?_ ?_
        · exact Sub.cons rfl (Sub.cons' rfl (by rw [hbB_t (by omega) hf]) (Sub.cons' rfl (congrArg (Value.int .i64) (by omega)) (Sub.nil _)))
        · exact HSub.cons rfl (HSub.nil _)
      · skip
        refine GC.skip ?_
        refine GE.in_n ?_
        refine GE.then_n ?_
        refine GC.region rfl ?_
        refine GL.yl (Yl.move rfl) rfl ?_
        refine GL.yl (Yl.sub rfl rfl (by omega) (by omega)) rfl ?_
        refine GL.yl (Yl.assign rfl) rfl ?_
        refine GL.nil ?_
        refine GE.again (s + 1) (by omega) (by omega) ?_ ?_
        · exact Sub.cons rfl (Sub.cons' rfl (by rw [hbB_f (by omega) hf]) (Sub.cons' rfl (congrArg (Value.int .i64) (by omega)) (Sub.nil _)))
        · exact HSub.cons rfl (HSub.nil _)
    · skip
      have e : s = 64 := by omega
      subst e
      refine GC.exit ?_
      refine GE.then_exit ?_
      refine GE.then_exit ?_
      refine GE.in_hit ?_
      refine GE.then_n ?_
      refine GC.seq ?_
      refine GC.region rfl ?_
      refine GL.yl (Yl.move rfl) rfl ?_
      refine GL.yl (Yl.assign rfl) rfl ?_
      refine GL.nil ?_
      refine GE.then_n ?_
      refine GC.ret ?_
      refine GE.ret1 rfl rfl (fun w hw => ?_)
      exact ⟨rfl, hw.below⟩

def numsK (f : Nat → Bool) (n : Nat) : List Nat := (List.range n).filter f
theorem numsK_t {f : Nat → Bool} {s : Nat} (h : f s = true) : numsK f (s + 1) = numsK f s ++ [s] := by
  unfold numsK
  rw [List.range_succ, List.filter_append]; simp [h]
theorem numsK_f {f : Nat → Bool} {s : Nat} (h : f s = false) : numsK f (s + 1) = numsK f s := by
  unfold numsK
  rw [List.range_succ, List.filter_append]; simp [h]
theorem numsK_len (f : Nat → Bool) (s : Nat) : (numsK f s).length ≤ s := by
  have := List.length_filter_le f (List.range s)
  simpa [numsK] using this
theorem fnumbers_calls (f : Nat → Bool) (w : World) : RetRow 12 [.agg (flc f)] w (numsF f) := by
  refine calls_in Tryd.func12 rfl rfl ?_
  refine GC.seq ?_
  refine GC.region rfl ?_
  refine GL.op ?_
  refine GO.box 1 rfl rfl ?_
  intro b1 hb1
  refine GK.list ?_
  refine GL.yl (Yl.assign rfl) rfl ?_
  refine GL.nil ?_
  refine GE.then_n ?_
  refine GC.seq ?_
  refine GC.region rfl ?_
  refine GL.yl (Yl.assign rfl) rfl ?_
  refine GL.nil ?_
  refine GE.then_n ?_
  refine GC.seq ?_
  refine GC.seq ?_
  refine GC.region rfl ?_
  refine GL.yl (Yl.loadAll 1 rfl T.ag26 (flc_size f) rfl) rfl ?_
  refine GL.yl (Yl.move rfl) rfl ?_
  refine GL.nil ?_
  refine GE.then_n ?_
  refine GC.block ?_
  refine GC.nilrow 50 3 1 ?_
  refine GC.loop (σ := Nat × Value) (fun s => s.1 ≤ 64) (fun s => 64 - s.1) (fun s => [(50, row s.2 3 1 (numsK f s.1).length ((numsK f s.1).map ivN))]) (fun s => [(6, .agg (flc f)), (7, .int .i64 s.1), (3, s.2)]) ((0, .slice none 0 0)) ?_ ?_ ?_ ?_
  · exact Nat.zero_le _
  · exact Sub.cons rfl (Sub.cons rfl (Sub.cons rfl (Sub.nil _)))
  · exact HSub.cons rfl (HSub.nil _)
  · skip
    rintro ⟨s, v⟩ hs
    replace hs : s ≤ 64 := hs
    refine GC.seq ?_
    refine GC.region rfl ?_
    refine GL.yl (Yl.lss rfl rfl) rfl ?_
    refine GL.nil ?_
    refine GE.then_n ?_
    refine GC.seq ?_
    refine GC.cond_d rfl (fun hc => ?_) (fun hc => ?_)
    · skip
      have hlen := numsK_len f s
      refine GC.skip ?_
      refine GE.then_n ?_
      refine GC.seq ?_
      refine GC.block ?_
      refine GC.seq ?_
      refine GC.region rfl ?_
      refine GL.yl (Yl.move rfl) rfl ?_
      refine GL.yl (Yl.indexAgg Tryd.underlying26 T.sz4 T.sc4 rfl rfl (by omega) (by omega) (flc_get f (by omega))) rfl ?_
      refine GL.yl (Yl.assign rfl) rfl ?_
      refine GL.yl (Yl.assign rfl) rfl ?_
      refine GL.nil ?_
      refine GE.then_n ?_
      refine GC.seq ?_
      refine GC.region rfl ?_
      refine GL.yl (Yl.move rfl) rfl ?_
      refine GL.nil ?_
      refine GE.then_n ?_
      refine GC.cond_b rfl (fun hf => ?_) (fun hf => ?_)
      · skip
        replace hf : f s = true := hf
        refine GC.region rfl ?_
        refine GL.yl (Yl.move rfl) rfl ?_
        refine GL.yl (Yl.move rfl) rfl ?_
        refine GL.op ?_
        refine GO.buildSlice 14 Tryd.underlying27 T.zr3 T.sz3 rfl rfl rfl (sliceCells_one rfl rfl) rfl ?_
        intro b14 hb14
        refine GK.list ?_
        refine GL.op ?_
        refine GO.appendBox 50 14 rfl rfl Tryd.underlying27 T.zr3 T.sz3 T.by3 rfl (by decide) rfl rfl rfl (by intro u hu; simp at hu; subst hu; rfl) (by show (numsK f s).length + 1 ≤ _; omega) (by show ((numsK f s).length + 1) * 8 ≤ _; omega) (by decide) rfl ?_
        intro g15 c15
        refine GK.list ?_
        refine GL.yl (Yl.assign rfl) rfl ?_
        refine GL.nil ?_
        refine GE.in_n ?_
        refine GE.then_n ?_
        refine GC.region rfl ?_
        refine GL.yl (Yl.add rfl rfl (by omega) (by omega)) rfl ?_
        refine GL.yl (Yl.move rfl) rfl ?_
        refine GL.nil ?_
        refine GE.again ((s + 1, .slice (some ⟨g15, 0, none⟩) ((numsK f s).length + 1) c15)) (by show s + 1 ≤ 64; omega) (by show 64 - (s + 1) < 64 - s; omega) ?_ ?_
        · exact Sub.cons rfl (Sub.cons rfl (Sub.cons rfl (Sub.nil _)))
        · exact HSub.cons' rfl (by rw [numsK_t hf, List.length_append, List.map_append]; rfl) (HSub.nil _)
      · skip
        replace hf : f s = false := hf
        refine GC.skip ?_
        refine GE.in_n ?_
        refine GE.then_n ?_
        refine GC.region rfl ?_
        refine GL.yl (Yl.add rfl rfl (by omega) (by omega)) rfl ?_
        refine GL.yl (Yl.move rfl) rfl ?_
        refine GL.nil ?_
        refine GE.again ((s + 1, v)) (by show s + 1 ≤ 64; omega) (by show 64 - (s + 1) < 64 - s; omega) ?_ ?_
        · exact Sub.cons rfl (Sub.cons rfl (Sub.cons rfl (Sub.nil _)))
        · exact HSub.cons' rfl (by rw [numsK_f hf]) (HSub.nil _)
    · skip
      have e : s = 64 := by omega
      subst e
      refine GC.exit ?_
      refine GE.then_exit ?_
      refine GE.then_exit ?_
      refine GE.in_hit ?_
      refine GE.then_n ?_
      refine GC.seq ?_
      refine GC.region rfl ?_
      refine GL.yl (Yl.move rfl) rfl ?_
      refine GL.yl (Yl.assign rfl) rfl ?_
      refine GL.nil ?_
      refine GE.then_n ?_
      refine GC.ret ?_
      refine GE.ret1 rfl rfl (fun w hw => ?_)
      exact ⟨v, rfl, trivial, hw.below, hw.new (k := 50) rfl rfl⟩

def iv (k : Int) : Value := .int .i64 k
theorem equal_calls (v u : Value) (xs ys : List Int) (w : World) (h : IsSl w v (xs.map iv)) (h' : IsSl w u (ys.map iv)) (hl : xs.length ≤ 1000000) (hl' : ys.length ≤ 1000000) : RetB Tryd.prog 23 [v, u] w (.bool (decide (xs = ys))) := by
  obtain ⟨p, c, rfl, hc1, hx⟩ := h
  obtain ⟨p', c', rfl, hc2, hx'⟩ := h'
  simp only [List.length_map] at hc1 hc2 ⊢
  refine calls_in Tryd.func23 rfl rfl ?_
  refine GC.seq ?_
  refine GC.region rfl ?_
  refine GL.yl (Yl.assign rfl) rfl ?_
  refine GL.nil ?_
  refine GE.then_n ?_
  refine GC.seq ?_
  refine GC.seq ?_
  refine GC.region rfl ?_
  refine GL.yl (Yl.move rfl) rfl ?_
  refine GL.yl (Yl.len 3 Tryd.underlying27 rfl) rfl ?_
  refine GL.yl (Yl.move rfl) rfl ?_
  refine GL.yl (Yl.len 3 Tryd.underlying27 rfl) rfl ?_
  refine GL.yl (Yl.neq rfl rfl) rfl ?_
  refine GL.nil ?_
  refine GE.then_n ?_
  refine GC.cond_d rfl (fun hc => ?_) (fun hc => ?_)
  · skip
    have e : ¬ xs = ys := fun h => hc (by rw [h])
    refine GC.seq ?_
    refine GC.region rfl ?_
    refine GL.yl (Yl.assign rfl) rfl ?_
    refine GL.nil ?_
    refine GE.then_n ?_
    refine GC.ret ?_
    refine GE.then_ret ?_
    refine GE.ret1 rfl rfl (fun w hw => ?_)
    exact ⟨ret_eq (by simp [e]), hw.below⟩
  · skip
    have hlen : xs.length = ys.length := by omega
    refine GC.skip ?_
    refine GE.then_n ?_
    refine GC.seq ?_
    refine GC.seq ?_
    refine GC.region rfl ?_
    refine GL.yl (Yl.move rfl) rfl ?_
    refine GL.yl (Yl.len 3 Tryd.underlying27 rfl) rfl ?_
    refine GL.yl (Yl.move rfl) rfl ?_
    refine GL.nil ?_
    refine GE.then_n ?_
    refine GC.block ?_
    refine GC.loop (σ := Nat) (fun s => s ≤ xs.length ∧ xs.take s = ys.take s) (fun s => xs.length - s) (fun s => []) (fun s => [(13, .int .i64 s), (0, .slice p xs.length c), (1, .slice p' ys.length c'), (12, .int .i64 xs.length)]) (0) ?_ ?_ ?_ ?_
    · exact ⟨Nat.zero_le _, rfl⟩
    · exact Sub.cons rfl (Sub.cons rfl (Sub.cons rfl (Sub.cons rfl (Sub.nil _))))
    · exact HSub.nil _
    · skip
      rintro s ⟨hs, htk⟩
      refine GC.seq ?_
      refine GC.region rfl ?_
      refine GL.yl (Yl.lss rfl rfl) rfl ?_
      refine GL.nil ?_
      refine GE.then_n ?_
      refine GC.seq ?_
      refine GC.cond_d rfl (fun hc => ?_) (fun hc => ?_)
      · skip
        obtain ⟨y, hy⟩ := get_lt xs (k := s) (by omega)
        obtain ⟨z, hz⟩ := get_lt ys (k := s) (by omega)
        obtain ⟨b, o, rfl, hb⟩ := hx s (iv y) (by simp [hy])
        obtain ⟨b', o', rfl, hb'⟩ := hx' s (iv z) (by simp [hz])
        refine GC.skip ?_
        refine GE.then_n ?_
        refine GC.seq ?_
        refine GC.block ?_
        refine GC.seq ?_
        refine GC.region rfl ?_
        refine GL.yl (Yl.move rfl) rfl ?_
        refine GL.yl (Yl.assign rfl) rfl ?_
        refine GL.nil ?_
        refine GE.then_n ?_
        refine GC.seq ?_
        refine GC.draw T.mixed rfl ([]) ?_
        refine GA.take 0 rfl (by kernel_rfl) (by kernel_rfl) (by kernel_rfl) rfl (Yl.move rfl) rfl (HSub.nil _) ?_
        refine GA.take 1 rfl (by kernel_rfl) (by kernel_rfl) (by kernel_rfl) rfl (Yl.move rfl) rfl (HSub.nil _) ?_
        refine GA.take 2 rfl (by kernel_rfl) (by kernel_rfl) (by kernel_rfl) rfl (Yl.indexSl Tryd.underlying27 T.sz3 rfl rfl (by omega) (by omega)) rfl (HSub.nil _) ?_
        refine GA.take 3 rfl (by kernel_rfl) (by kernel_rfl) (by kernel_rfl) rfl (Yl.loadCell (v := iv y) T.sc3 rfl (fun w hw => by simpa using hw.cell0 rfl hb)) rfl (HSub.nil _) ?_
        refine GA.take 4 rfl (by kernel_rfl) (by kernel_rfl) (by kernel_rfl) rfl (Yl.move rfl) rfl (HSub.nil _) ?_
        refine GA.take 5 rfl (by kernel_rfl) (by kernel_rfl) (by kernel_rfl) rfl (Yl.move rfl) rfl (HSub.nil _) ?_
        refine GA.take 6 rfl (by kernel_rfl) (by kernel_rfl) (by kernel_rfl) rfl (Yl.indexSl Tryd.underlying27 T.sz3 rfl rfl (by omega) (by omega)) rfl (HSub.nil _) ?_
        refine GA.take 7 rfl (by kernel_rfl) (by kernel_rfl) (by kernel_rfl) rfl (Yl.loadCell (v := iv z) T.sc3 rfl (fun w hw => by simpa using hw.cell0 rfl hb')) rfl (HSub.nil _) ?_
        refine GA.take 8 rfl (by kernel_rfl) (by kernel_rfl) (by kernel_rfl) rfl (Yl.neq rfl rfl) rfl (HSub.nil _) ?_
        refine GQ.done (by kernel_rfl) ?_
        refine GE.then_n ?_
        refine GC.cond_d rfl (fun hn => ?_) (fun hn => ?_)
        · skip
          have e : ¬ xs = ys := fun h => hn (by rw [h] at hy; rw [hy] at hz; exact Option.some.inj hz)
          refine GC.seq ?_
          refine GC.region rfl ?_
          refine GL.yl (Yl.assign rfl) rfl ?_
          refine GL.nil ?_
          refine GE.then_n ?_
          refine GC.ret ?_
          refine GE.in_ret ?_
          refine GE.then_ret ?_
          refine GE.then_ret ?_
          refine GE.in_ret ?_
          refine GE.then_ret ?_
          refine GE.ret1 rfl rfl (fun w hw => ?_)
          exact ⟨ret_eq (by simp [e]), hw.below⟩
        · skip
          replace hn : y = z := Classical.byContradiction hn
          refine GC.skip ?_
          refine GE.in_n ?_
          refine GE.then_n ?_
          refine GC.region rfl ?_
          refine GL.yl (Yl.add rfl rfl (by omega) (by omega)) rfl ?_
          refine GL.yl (Yl.move rfl) rfl ?_
          refine GL.nil ?_
          refine GE.again (s + 1) ⟨by omega, by rw [take_snoc hy, take_snoc hz, htk, hn]⟩ (by omega) ?_ ?_
          · exact Sub.cons rfl (Sub.cons rfl (Sub.cons rfl (Sub.cons rfl (Sub.nil _))))
          · exact HSub.nil _
      · skip
        have e : xs = ys := by
          have e1 : s = xs.length := by omega
          rw [e1, List.take_length, hlen, List.take_length] at htk
          exact htk
        refine GC.exit ?_
        refine GE.then_exit ?_
        refine GE.then_exit ?_
        refine GE.in_hit ?_
        refine GE.then_n ?_
        refine GC.seq ?_
        refine GC.region rfl ?_
        refine GL.yl (Yl.assign rfl) rfl ?_
        refine GL.nil ?_
        refine GE.then_n ?_
        refine GC.ret ?_
        refine GE.ret1 rfl rfl (fun w hw => ?_)
        exact ⟨ret_eq (by simp [e]), hw.below⟩
end Go.Proofs.YtligejpfbcdpmaaDoor
