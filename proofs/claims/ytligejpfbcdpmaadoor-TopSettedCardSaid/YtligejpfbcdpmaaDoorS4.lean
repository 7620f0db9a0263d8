/- Contracts: slices.Collect over the numbers of a set, sets.Numbers.
   No condition. -/
import Derived.Test.YtligejpfbcdpmaaDoorS3
namespace Go.Proofs.YtligejpfbcdpmaaDoor
open Go.Proofs.YtligejpfbcdpmaaDoor.Dv Go.RowKit
set_option linter.unusedVariables false
set_option linter.unusedSimpArgs false
attribute [local irreducible] Tryd.prog

def ivN (k : Nat) : Value := .int .i64 k
/-- It returns a new row of these numbers. -/
abbrev RetRow (f : FuncId) (args : List Value) (w : World) (xs : List Nat) : Prop := Calls Tryd.prog f args.toArray w fun e w' => ∃ v, e = .returned v ∧ True ∧ Below w.heap.size w w' ∧ (row v 3 1 xs.length (xs.map ivN)).holds (New w w') w'
theorem each_calls (c : BitVec 64) (w : World) : Calls Tryd.prog 25 [u64 c].toArray w fun e w' => ∃ b : Nat, e = .returned (.func (.func 101) #[] #[.pointer (some ⟨b, 0, none⟩)]) ∧ True ∧ Below w.heap.size w w' ∧ (box b #[u64 c] 29).holds (New w w') w' := by
  refine calls_in Tryd.func25 rfl rfl ?_
  refine GC.seq ?_
  refine GC.region rfl ?_
  refine GL.op ?_
  refine GO.box 1 rfl rfl ?_
  intro b1 hb1
  refine GK.list ?_
  refine GL.yl (Yl.assign rfl) rfl ?_
  refine GL.nil ?_
  refine GE.then_n ?_
  refine GC.seq ?_
  refine GC.region rfl ?_
  refine GL.yl (Yl.mkFunc rfl rfl) rfl ?_
  refine GL.yl (Yl.assign rfl) rfl ?_
  refine GL.nil ?_
  refine GE.then_n ?_
  refine GC.ret ?_
  refine GE.ret1 rfl rfl (fun w hw => ?_)
  exact ⟨b1, rfl, trivial, hw.below, hw.new (k := 1) rfl rfl⟩
theorem appendSeq_calls {G : World → Prop} {gf : FuncId} {lb : List Value} {xs : List Nat} (it : IterAt Tryd.prog G emp gf lb encI xs) (hl : xs.length ≤ 1000000) (w : World) (hG : G w) : RetRow 165 [.slice none 0 0, .func (.func gf) #[] lb.toArray] w xs := by
  refine calls_in Tryd.func165 rfl rfl ?_
  refine GC.seq ?_
  refine GC.region rfl ?_
  refine GL.op ?_
  refine GO.box 2 rfl rfl ?_
  intro b2 hb2
  refine GK.list ?_
  refine GL.yl (Yl.assign rfl) rfl ?_
  refine GL.nil ?_
  refine GE.then_n ?_
  refine GC.seq ?_
  refine GC.seq ?_
  refine GC.region rfl ?_
  refine GL.yl (Yl.move rfl) rfl ?_
  refine GL.nil ?_
  refine GE.then_n ?_
  refine GC.block ?_
  refine GC.empk 90 ?_
  refine GC.nilrow 50 3 1 ?_
  refine GC.range (σ := Value × List Nat) (τ := Unit) (ι := Unit) 90 rfl rfl rfl (it) rfl (hG) (fun _ => rfl) rfl (fun pre s => s.2 = pre) (fun s => [(2, box b2 #[s.1] 27), (50, row s.1 3 1 s.2.length (s.2.map ivN))]) (fun _ _ _ => False) (fun _ => []) ((.slice none 0 0, [])) (rfl) ((HSub.cons rfl (HSub.cons rfl (HSub.nil _)))) (fun _ => ⟨rfl, rfl⟩) (fun _ => ⟨rfl, rfl⟩) (fun _ _ _ => True) (fun x s i => [(2, box b2 #[s.1] 27), (50, row s.1 3 1 s.2.length (s.2.map ivN))]) (fun x s i => [(2, .pointer (some ⟨b2, 0, none⟩)), (5, ivN x)]) ?_ ?_ ?_ ?_
  · skip
    intro Z l pre x s hpre hrel
    skip
    refine GC.region rfl ?_
    refine GL.yl (Yl.assign rfl) rfl ?_
    refine GL.nil ?_
    refine GE.met (()) trivial ?_ ?_
    · exact Sub.cons rfl (Sub.cons rfl (Sub.nil _))
    · exact HSub.refl _
  · skip
    intro Z l pre x s i hpre hrel hJ
    obtain ⟨v, l2⟩ := s
    replace hrel : l2 = pre := hrel
    subst hrel
    have hlen := hpre.length_le
    rw [List.length_append, List.length_singleton] at hlen
    refine GC.block ?_
    refine GC.region rfl ?_
    refine GL.yl (Yl.load 2 rfl T.sc27 rfl rfl) rfl ?_
    refine GL.yl (Yl.move rfl) rfl ?_
    refine GL.op ?_
    refine GO.buildSlice 10 Tryd.underlying27 T.zr3 T.sz3 rfl rfl rfl (sliceCells_one rfl rfl) rfl ?_
    intro b10 hb10
    refine GK.list ?_
    refine GL.op ?_
    refine GO.appendBox 50 10 rfl rfl Tryd.underlying27 T.zr3 T.sz3 T.by3 rfl (by decide) rfl rfl rfl (by intro u hu; simp at hu; subst hu; rfl) (by show l2.length + 1 ≤ _; omega) (by show (l2.length + 1) * 8 ≤ _; omega) (by decide) rfl ?_
    intro g11 c11
    refine GK.list ?_
    refine GL.op ?_
    refine GO.store 2 rfl T.sz27 rfl rfl rfl (by first | (simp; done) | (simp; omega) | decide) rfl ?_
    refine GK.list ?_
    refine GL.nil ?_
    refine GE.in_n ?_
    refine GE.round_n ((.slice (some ⟨g11, 0, none⟩) (l2.length + 1) c11, l2 ++ [x])) rfl (HSub.cons rfl (HSub.cons' rfl (by simp [ivN]) (HSub.nil _)))
  · skip
    rintro ⟨v, l2⟩ hrel
    replace hrel : l2 = xs := hrel
    subst hrel
    refine GE.in_n ?_
    refine GE.then_n ?_
    refine GC.seq ?_
    refine GC.region rfl ?_
    refine GL.yl (Yl.load 2 rfl T.sc27 rfl rfl) rfl ?_
    refine GL.yl (Yl.assign rfl) rfl ?_
    refine GL.nil ?_
    refine GE.then_n ?_
    refine GC.ret ?_
    refine GE.ret1 rfl rfl (fun w hw => ?_)
    exact ⟨v, rfl, trivial, hw.below, hw.new (k := 50) rfl rfl⟩
  · skip
    intro c pre t hpre hout
    exact hout.elim
theorem collect_calls {G : World → Prop} {gf : FuncId} {lb : List Value} {xs : List Nat} (it : IterAt Tryd.prog G emp gf lb encI xs) (hl : xs.length ≤ 1000000) (w : World) (hG : ∀ w', Below w.heap.size w w' → G w') : RetRow 100 [.func (.func gf) #[] lb.toArray] w xs := by
  refine calls_in Tryd.func100 rfl rfl ?_
  refine GC.seq ?_
  refine GC.region rfl ?_
  refine GL.yl (Yl.assign rfl) rfl ?_
  refine GL.nil ?_
  refine GE.then_n ?_
  refine GC.seq ?_
  refine GC.region rfl ?_
  refine GL.yl (Yl.move rfl) rfl ?_
  refine GL.op ?_
  refine GO.calln 50 (fun v : Value => v) (fun v => row v 3 1 xs.length (xs.map ivN)) (fun _ => True) T.en165 rfl rfl (fun w hw => appendSeq_calls it hl w (hG _ hw.below)) ?_
  intro v50 _
  refine GK.list ?_
  refine GL.yl (Yl.assign rfl) rfl ?_
  refine GL.nil ?_
  refine GE.then_n ?_
  refine GC.ret ?_
  refine GE.ret1 rfl rfl (fun w hw => ?_)
  exact ⟨v50, rfl, trivial, hw.below, hw.new (k := 50) rfl rfl⟩
theorem numbers_calls (c : BitVec 64) (w : World) (hT : Tab64 w) : RetRow 24 [u64 c] w (nums c) := by
  refine calls_in Tryd.func24 rfl rfl ?_
  refine GC.seq ?_
  refine GC.region rfl ?_
  refine GL.yl (Yl.assign rfl) rfl ?_
  refine GL.nil ?_
  refine GE.then_n ?_
  refine GC.seq ?_
  refine GC.region rfl ?_
  refine GL.yl (Yl.move rfl) rfl ?_
  refine GL.op ?_
  refine GO.calln 40 (fun b : Nat => .func (.func 101) #[] #[.pointer (some ⟨b, 0, none⟩)]) (fun b => box b #[u64 c] 29) (fun _ => True) T.en25 rfl rfl (fun w hw => each_calls c w) ?_
  intro b40 _
  refine GK.list ?_
  refine GL.op ?_
  refine GO.calln 50 (fun v : Value => v) (fun v => row v 3 1 (nums c).length ((nums c).map ivN)) (fun _ => True) T.en100 rfl rfl (fun w hw => collect_calls (each_old c b40) (by have := nums_len c; omega) w (fun w2 h2 => ⟨(own_tab hw rfl hT).below h2, by obtain ⟨S, _, _, h⟩ := hw.get (k := 40) rfl; exact (h2.cell (p := ⟨b40, 0, none⟩) (World.block_lt_of_cell? _ _ (cell_of_box h))).trans (cell_of_box h)⟩)) ?_
  intro v50 _
  refine GK.list ?_
  refine GL.yl (Yl.assign rfl) rfl ?_
  refine GL.nil ?_
  refine GE.then_n ?_
  refine GC.ret ?_
  refine GE.ret1 rfl rfl (fun w hw => ?_)
  exact ⟨v50, rfl, trivial, hw.below, hw.new (k := 50) rfl rfl⟩
end Go.Proofs.YtligejpfbcdpmaaDoor
