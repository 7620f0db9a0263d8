/- Contracts: the iterator of sets.Each, at whatever rounds.
   No condition. -/
import Derived.Test.YtligejpfbcdpmaaDoorS2
namespace Go.Proofs.YtligejpfbcdpmaaDoor
open Go.Proofs.YtligejpfbcdpmaaDoor.Dv Go.RowKit
set_option linter.unusedVariables false
set_option linter.unusedSimpArgs false
attribute [local irreducible] Tryd.prog

def encI (k : Nat) : List Value := [.int .i64 k]
theorem each_run (c : BitVec 64) (b : Nat) (A : Asrt) (G : World → Prop) (hGT : ∀ w, G w → Tab64 w) (hrd : ∀ (E : Env) (H : Heap) (ms : List Nat) (w : World), E.base = E.w0.heap.size → G E.w0 → Own E ms H w → hlook H itk = some A → w.cell? ⟨b, 0, none⟩ = some (u64 c)) :
    IterAt Tryd.prog G A 101 [.pointer (some ⟨b, 0, none⟩)] encI (nums c) := by
  refine ⟨T.en101, fun E hP hb hG0 σ τ rel H out Hx l W s0 hr h0 hO => ?_⟩
  obtain ⟨P, n, R, w0, base, Z⟩ := E
  simp only at hP hb hG0
  subst hP
  subst hb
  have hT := hGT _ hG0
  refine calls_at Tryd.func101 rfl rfl hO ?_
  refine GC.seq ?_
  refine GC.region rfl ?_
  refine GL.yl (Yl.loadCell (v := u64 c) T.sc29 rfl (fun w1 hw => hrd _ _ _ _ rfl hG0 hw rfl)) rfl ?_
  refine GL.yl (Yl.assign rfl) rfl ?_
  refine GL.nil ?_
  refine GE.then_n ?_
  refine GC.block ?_
  refine GC.loop (σ := List Nat × BitVec 64 × σ) (fun s => nums c = s.1 ++ nums s.2.1 ∧ rel s.1 s.2.2) (fun s => (nums s.2.1).length) (fun s => (itk, A) :: H s.2.2) (fun s => [(0, .func (.yield l) #[] #[]), (3, u64 s.2.1)]) (([], c, s0)) ?_ ?_ ?_ ?_
  · exact ⟨rfl, h0⟩
  · exact Sub.cons rfl (Sub.cons rfl (Sub.nil _))
  · exact HSub.refl _
  · skip
    rintro ⟨pre, c1, s1⟩ ⟨hs, hrel⟩
    replace hs : nums c = pre ++ nums c1 := hs
    replace hrel : rel pre s1 := hrel
    obtain ⟨k, hkd⟩ : ∃ k, k = Lib.ctz 64 c1.toNat := ⟨_, rfl⟩
    refine GC.seq ?_
    refine GC.seq ?_
    refine GC.region rfl ?_
    refine GL.yl (Yl.move rfl) rfl ?_
    refine GL.yl (Yl.uneq rfl (show ev _ _ = some (u64 0#64) from rfl)) rfl ?_
    refine GL.nil ?_
    refine GE.then_n ?_
    refine GC.cond_d rfl (fun hc => ?_) (fun hc => ?_)
    · skip
      obtain ⟨hk, hn⟩ := nums_step c1 hc
      rw [← hkd] at hk hn
      have hpre : pre ++ [k] <+: nums c := ⟨nums (c1 &&& (c1 - 1#64)), by rw [hs, hn]; simp⟩
      refine GC.skip ?_
      refine GE.then_n ?_
      refine GC.seq ?_
      refine GC.block ?_
      refine GC.seq ?_
      refine GC.region rfl ?_
      refine GL.yl (Yl.move rfl) rfl ?_
      refine GL.yl (Yl.move rfl) rfl ?_
      refine GL.op ?_
      refine GO.callv (.int .i64 k) T.en98 rfl rfl (fun w hw => by rw [hkd]; exact tz_calls _ w (own_tab hw rfl hT)) ?_
      refine GK.list ?_
      refine GL.op ?_
      refine GO.yield (ω := σ ⊕ τ) (fun b i => (b = true ∧ ∃ s2, i = .inl s2 ∧ rel (pre ++ [k]) s2) ∨ (b = false ∧ ∃ t2, i = .inr t2 ∧ out (pre ++ [k]) t2)) (fun i => Sum.elim H Hx i) (H s1) A rfl rfl rfl (HSub.refl _) (fun X W1 hW => (hr X pre k s1 W1 hpre hrel (hW.env rfl rfl rfl)).mono ?_) ?_
      · rintro e W2 (⟨rfl, s2, h2, h3⟩ | ⟨rfl, t2, h2, h3⟩)
        · exact ⟨true, .inl s2, rfl, .inl ⟨rfl, s2, rfl, h2⟩, h3.env rfl rfl rfl⟩
        · exact ⟨false, .inr t2, rfl, .inr ⟨rfl, t2, rfl, h2⟩, h3.env rfl rfl rfl⟩
      intro b i hφ
      refine GK.list ?_
      refine GL.yl (Yl.not rfl) rfl ?_
      refine GL.nil ?_
      refine GE.then_n ?_
      refine GC.cond_b rfl (fun hb => ?_) (fun hb => ?_)
      · skip
        obtain ⟨t2, rfl, hψ⟩ : ∃ t2, i = .inr t2 ∧ out (pre ++ [k]) t2 := by
          rcases hφ with ⟨rfl, _⟩ | ⟨_, h⟩
          · simp at hb
          · exact h
        refine GC.ret ?_
        refine GE.in_ret ?_
        refine GE.then_ret ?_
        refine GE.then_ret ?_
        refine GE.in_ret ?_
        refine GE.ret0 rfl (fun w hw => ?_)
        exact ⟨⟨_, rfl⟩, .inr ⟨pre ++ [k], t2, A, hpre, hψ, hw.env rfl rfl rfl⟩⟩
      · skip
        obtain ⟨s2, rfl, hψ⟩ : ∃ s2, i = .inl s2 ∧ rel (pre ++ [k]) s2 := by
          rcases hφ with ⟨_, h⟩ | ⟨rfl, _⟩
          · exact h
          · simp at hb
        refine GC.skip ?_
        refine GE.in_n ?_
        refine GE.then_n ?_
        refine GC.region rfl ?_
        refine GL.yl (Yl.move rfl) rfl ?_
        refine GL.yl (Yl.move rfl) rfl ?_
        refine GL.yl (Yl.usub rfl (show ev _ _ = some (u64 1#64) from rfl)) rfl ?_
        refine GL.yl (Yl.uand rfl rfl) rfl ?_
        refine GL.yl (Yl.assign rfl) rfl ?_
        refine GL.nil ?_
        refine GE.again ((pre ++ [k], c1 &&& (c1 - 1#64), s2)) ⟨by show nums c = (pre ++ [k]) ++ _; rw [hs, hn]; simp, hψ⟩ (by show (nums (c1 &&& (c1 - 1#64))).length < (nums c1).length; rw [hn]; simp) ?_ ?_
        · exact Sub.cons rfl (Sub.cons rfl (Sub.nil _))
        · exact HSub.refl _
    · skip
      have e : pre = nums c := by
        have hz : c1 = 0#64 := Classical.byContradiction hc
        rw [hs, hz, nums_zero, List.append_nil]
      subst e
      refine GC.exit ?_
      refine GE.then_exit ?_
      refine GE.then_exit ?_
      refine GE.in_hit ?_
      refine GE.end0 rfl (fun w hw => ?_)
      exact ⟨⟨_, rfl⟩, .inl ⟨s1, A, hrel, hw.env rfl rfl rfl⟩⟩
theorem each_own (c : BitVec 64) (b : Nat) : IterAt Tryd.prog Tab64 (box b #[u64 c] 29) 101 [.pointer (some ⟨b, 0, none⟩)] encI (nums c) :=
  each_run c b _ _ (fun _ h => h) fun E H ms w _ _ hw hk => by
    obtain ⟨S, _, _, h⟩ := hw.get hk
    rw [cell_of_box h]; rfl
theorem each_old (c : BitVec 64) (b : Nat) : IterAt Tryd.prog (fun w => Tab64 w ∧ w.cell? ⟨b, 0, none⟩ = some (u64 c)) emp 101 [.pointer (some ⟨b, 0, none⟩)] encI (nums c) :=
  each_run c b _ _ (fun _ h => h.1) fun E H ms w hE hG hw hk => hw.cell0 hE hG.2
end Go.Proofs.YtligejpfbcdpmaaDoor
