/- Contracts: math/bits.TrailingZeros64 and OnesCount64, sets.Least, Len, Compare.
   No condition. -/
import Derived.Test.YtligejpfbcdpmaaDoorK3
import Derived.Test.YtligejpfbcdpmaaDoorK5
import Derived.Test.YtligejpfbcdpmaaDoorM3
namespace Go.Proofs.YtligejpfbcdpmaaDoor
open Go.Proofs.YtligejpfbcdpmaaDoor.Dv Go.RowKit
set_option linter.unusedVariables false
set_option linter.unusedSimpArgs false
attribute [local irreducible] Tryd.prog

/-- The table of math/bits.TrailingZeros64 lies where it should. -/
def Tab64 (w : World) : Prop := ∀ j, j < 64 → w.cell? ⟨7, j, none⟩ = some (.int .u8 (Lib.deBruijn64tab.getD j 0))
theorem Tab64.below {w w' : World} (h : Tab64 w) (hb : Below w.heap.size w w') : Tab64 w' := fun j hj => by
  rw [hb.cell (World.block_lt_of_cell? _ _ (h j hj))]; exact h j hj
theorem own_tab {E : Env} {ms : List Nat} {H : Heap} {w : World} (hw : Own E ms H w) (hE : E.base = E.w0.heap.size) (h : Tab64 E.w0) : Tab64 w := fun j hj => hw.cell0 hE (h j hj)

theorem tab_at {w : World} {k c : Nat} (h : Tab64 w) (hk : k < 64) (e : Lib.deBruijn64tab.getD k 0 = c) : w.cell? ⟨7, 0 + (k : Int).toNat * 1, none⟩ = some (.int .u8 c) := by
  have := h k hk
  rw [e] at this
  simpa using this
theorem tzi_def (x : BitVec 64) : ((x &&& -x) * 285870213051353865#64) >>> (58 : Int).toNat = tzi x := rfl
attribute [local irreducible] tzi
theorem tz_calls (x : BitVec 64) (w : World) (hT : Tab64 w) : RetB Tryd.prog 98 [u64 x] w (.int .i64 (Lib.ctz 64 x.toNat)) := by
  refine calls_in Tryd.func98 rfl rfl ?_
  refine GC.seq ?_
  refine GC.region rfl ?_
  refine GL.yl (Yl.assign rfl) rfl ?_
  refine GL.nil ?_
  refine GE.then_n ?_
  refine GC.seq ?_
  refine GC.seq ?_
  refine GC.region rfl ?_
  refine GL.yl (Yl.move rfl) rfl ?_
  refine GL.yl (Yl.ueql rfl (show ev _ _ = some (u64 0#64) from rfl)) rfl ?_
  refine GL.nil ?_
  refine GE.then_n ?_
  refine GC.cond_d rfl (fun hc => ?_) (fun hc => ?_)
  · skip
    have e : Lib.ctz 64 x.toNat = 64 := by rw [hc]; rfl
    refine GC.seq ?_
    refine GC.region rfl ?_
    refine GL.yl (Yl.assign rfl) rfl ?_
    refine GL.nil ?_
    refine GE.then_n ?_
    refine GC.ret ?_
    refine GE.then_ret ?_
    refine GE.ret1 rfl rfl (fun w hw => ?_)
    exact ⟨by first | rfl | exact ret_eq (by rw [e]; rfl), hw.below⟩
  · skip
    obtain ⟨h1, h2, h3⟩ := tzi_at x hc
    refine GC.skip ?_
    refine GE.then_n ?_
    refine GC.seq ?_
    refine GC.region rfl ?_
    refine GL.yl (Yl.move rfl) rfl ?_
    refine GL.yl (Yl.move rfl) rfl ?_
    refine GL.yl (Yl.uneg rfl) rfl ?_
    refine GL.yl (Yl.uand rfl rfl) rfl ?_
    refine GL.yl (Yl.umul rfl (show ev _ _ = some (u64 285870213051353865#64) from rfl)) rfl ?_
    refine GL.yl (Yl.ushr rfl rfl (by omega)) rfl ?_
    refine GL.re 10 rfl (congrArg u64 (tzi_def x)) ?_
    refine GL.yl (Yl.indexArr (i := (tzi x).toNat) Tryd.underlying244 T.sz5 rfl rfl (by omega) (by omega)) rfl ?_
    refine GL.yl (Yl.loadCell (v := .int .u8 (Lib.ctz 64 x.toNat)) T.sc5 rfl (fun w1 hw => tab_at (own_tab hw rfl hT) h1 h2)) rfl ?_
    refine GL.yl (Yl.cvt Tryd.underlying5 Tryd.underlying3 rfl (i64_wrap (by omega) (by omega))) rfl ?_
    refine GL.yl (Yl.assign rfl) rfl ?_
    refine GL.nil ?_
    refine GE.then_n ?_
    refine GC.ret ?_
    refine GE.ret1 rfl rfl (fun w hw => ?_)
    exact ⟨by first | rfl | exact ret_eq (by rw [e]; rfl), hw.below⟩

theorem ones_calls (x : BitVec 64) (w : World) : RetB Tryd.prog 99 [u64 x] w (.int .i64 (nums x).length) := by
  obtain ⟨h1, h2⟩ := popB x
  refine calls_in Tryd.func99 rfl rfl ?_
  refine GC.seq ?_
  refine GC.region rfl ?_
  refine GL.yl (Yl.assign rfl) rfl ?_
  refine GL.nil ?_
  refine GE.then_n ?_
  refine GC.seq ?_
  refine GC.region rfl ?_
  refine GL.yl (Yl.move rfl) rfl ?_
  refine GL.yl (Yl.ushr rfl rfl (by omega)) rfl ?_
  refine GL.yl (Yl.uand rfl (show ev _ _ = some (u64 6148914691236517205#64) from rfl)) rfl ?_
  refine GL.yl (Yl.move rfl) rfl ?_
  refine GL.yl (Yl.uand rfl (show ev _ _ = some (u64 6148914691236517205#64) from rfl)) rfl ?_
  refine GL.yl (Yl.uadd rfl rfl) rfl ?_
  refine GL.yl (Yl.assign rfl) rfl ?_
  refine GL.nil ?_
  refine GE.then_n ?_
  refine GC.seq ?_
  refine GC.region rfl ?_
  refine GL.yl (Yl.move rfl) rfl ?_
  refine GL.yl (Yl.ushr rfl rfl (by omega)) rfl ?_
  refine GL.yl (Yl.uand rfl (show ev _ _ = some (u64 3689348814741910323#64) from rfl)) rfl ?_
  refine GL.yl (Yl.move rfl) rfl ?_
  refine GL.yl (Yl.uand rfl (show ev _ _ = some (u64 3689348814741910323#64) from rfl)) rfl ?_
  refine GL.yl (Yl.uadd rfl rfl) rfl ?_
  refine GL.yl (Yl.assign rfl) rfl ?_
  refine GL.nil ?_
  refine GE.then_n ?_
  refine GC.seq ?_
  refine GC.region rfl ?_
  refine GL.yl (Yl.move rfl) rfl ?_
  refine GL.yl (Yl.ushr rfl rfl (by omega)) rfl ?_
  refine GL.yl (Yl.move rfl) rfl ?_
  refine GL.yl (Yl.uadd rfl rfl) rfl ?_
  refine GL.yl (Yl.uand rfl (show ev _ _ = some (u64 1085102592571150095#64) from rfl)) rfl ?_
  refine GL.yl (Yl.assign rfl) rfl ?_
  refine GL.nil ?_
  refine GE.then_n ?_
  refine GC.seq ?_
  refine GC.region rfl ?_
  refine GL.yl (Yl.move rfl) rfl ?_
  refine GL.yl (Yl.move rfl) rfl ?_
  refine GL.yl (Yl.ushr rfl rfl (by omega)) rfl ?_
  refine GL.yl (Yl.uadd rfl rfl) rfl ?_
  refine GL.yl (Yl.assign rfl) rfl ?_
  refine GL.nil ?_
  refine GE.then_n ?_
  refine GC.seq ?_
  refine GC.region rfl ?_
  refine GL.yl (Yl.move rfl) rfl ?_
  refine GL.yl (Yl.move rfl) rfl ?_
  refine GL.yl (Yl.ushr rfl rfl (by omega)) rfl ?_
  refine GL.yl (Yl.uadd rfl rfl) rfl ?_
  refine GL.yl (Yl.assign rfl) rfl ?_
  refine GL.nil ?_
  refine GE.then_n ?_
  refine GC.seq ?_
  refine GC.region rfl ?_
  refine GL.yl (Yl.move rfl) rfl ?_
  refine GL.yl (Yl.move rfl) rfl ?_
  refine GL.yl (Yl.ushr rfl rfl (by omega)) rfl ?_
  refine GL.yl (Yl.uadd rfl rfl) rfl ?_
  refine GL.yl (Yl.assign rfl) rfl ?_
  refine GL.nil ?_
  refine GE.then_n ?_
  refine GC.seq ?_
  refine GC.region rfl ?_
  refine GL.yl (Yl.move rfl) rfl ?_
  refine GL.yl (Yl.cvt (n := ((pf (pe (pd (pc (pb (pa x)))))).toNat : Int)) Tryd.underlying28 Tryd.underlying3 rfl (i64_wrap (by omega) (by omega))) rfl ?_
  refine GL.yl (Yl.low7 (n := ((pf (pe (pd (pc (pb (pa x)))))).toNat : Int)) rfl rfl (by omega) (by omega)) rfl ?_
  refine GL.yl (Yl.assign rfl) rfl ?_
  refine GL.nil ?_
  refine GE.then_n ?_
  refine GC.ret ?_
  refine GE.ret1 rfl rfl (fun w hw => ?_)
  exact ⟨ret_eq (by rw [← h2]; rfl), hw.below⟩

theorem len_calls (x : BitVec 64) (w : World) : RetB Tryd.prog 22 [u64 x] w (.int .i64 (nums x).length) := by
  refine calls_in Tryd.func22 rfl rfl ?_
  refine GC.seq ?_
  refine GC.region rfl ?_
  refine GL.yl (Yl.assign rfl) rfl ?_
  refine GL.nil ?_
  refine GE.then_n ?_
  refine GC.seq ?_
  refine GC.region rfl ?_
  refine GL.yl (Yl.move rfl) rfl ?_
  refine GL.op ?_
  refine GO.callv _ T.en99 rfl rfl (fun w hw => ones_calls _ w) ?_
  refine GK.list ?_
  refine GL.yl (Yl.assign rfl) rfl ?_
  refine GL.nil ?_
  refine GE.then_n ?_
  refine GC.ret ?_
  refine GE.ret1 rfl rfl (fun w hw => ?_)
  exact ⟨rfl, hw.below⟩
theorem least_calls (x : BitVec 64) (w : World) (hT : Tab64 w) : RetB Tryd.prog 21 [u64 x] w (.tuple #[.int .i64 (if x = 0#64 then 0 else (Lib.ctz 64 x.toNat : Int)), .bool (decide (x ≠ 0#64))]) := by
  refine calls_in Tryd.func21 rfl rfl ?_
  refine GC.seq ?_
  refine GC.region rfl ?_
  refine GL.yl (Yl.assign rfl) rfl ?_
  refine GL.yl (Yl.assign rfl) rfl ?_
  refine GL.nil ?_
  refine GE.then_n ?_
  refine GC.seq ?_
  refine GC.seq ?_
  refine GC.region rfl ?_
  refine GL.yl (Yl.move rfl) rfl ?_
  refine GL.yl (Yl.ueql rfl (show ev _ _ = some (u64 0#64) from rfl)) rfl ?_
  refine GL.nil ?_
  refine GE.then_n ?_
  refine GC.cond_d rfl (fun hc => ?_) (fun hc => ?_)
  · skip
    refine GC.seq ?_
    refine GC.region rfl ?_
    refine GL.yl (Yl.assign rfl) rfl ?_
    refine GL.yl (Yl.assign rfl) rfl ?_
    refine GL.nil ?_
    refine GE.then_n ?_
    refine GC.ret ?_
    refine GE.then_ret ?_
    refine GE.ret2 rfl rfl rfl (fun w hw => ?_)
    exact ⟨ret_eq (by simp [hc]), hw.below⟩
  · skip
    refine GC.skip ?_
    refine GE.then_n ?_
    refine GC.seq ?_
    refine GC.region rfl ?_
    refine GL.yl (Yl.move rfl) rfl ?_
    refine GL.op ?_
    refine GO.callv _ T.en98 rfl rfl (fun w hw => tz_calls _ w (own_tab hw rfl hT)) ?_
    refine GK.list ?_
    refine GL.yl (Yl.assign rfl) rfl ?_
    refine GL.yl (Yl.assign rfl) rfl ?_
    refine GL.nil ?_
    refine GE.then_n ?_
    refine GC.ret ?_
    refine GE.ret2 rfl rfl rfl (fun w hw => ?_)
    exact ⟨ret_eq (by simp [hc]), hw.below⟩
def cmpS (x y : BitVec 64) : Int := if x.toNat < y.toNat then -1 else if y.toNat < x.toNat then 1 else 0
theorem nan_calls (x : BitVec 64) (w : World) : RetB Tryd.prog 167 [u64 x] w (.bool false) := by
  refine calls_in Tryd.func167 rfl rfl ?_
  refine GC.seq ?_
  refine GC.region rfl ?_
  refine GL.yl (Yl.assign rfl) rfl ?_
  refine GL.nil ?_
  refine GE.then_n ?_
  refine GC.seq ?_
  refine GC.region rfl ?_
  refine GL.yl (Yl.move rfl) rfl ?_
  refine GL.yl (Yl.move rfl) rfl ?_
  refine GL.yl (Yl.uneq rfl rfl) rfl ?_
  refine GL.yl (Yl.assign rfl) rfl ?_
  refine GL.nil ?_
  refine GE.then_n ?_
  refine GC.ret ?_
  refine GE.ret1 rfl rfl (fun w hw => ?_)
  exact ⟨ret_eq (by simp), hw.below⟩
theorem cmp_calls (x y : BitVec 64) (w : World) : RetB Tryd.prog 103 [u64 x, u64 y] w (.int .i64 (cmpS x y)) := by
  refine calls_in Tryd.func103 rfl rfl ?_
  refine GC.seq ?_
  refine GC.region rfl ?_
  refine GL.yl (Yl.assign rfl) rfl ?_
  refine GL.nil ?_
  refine GE.then_n ?_
  refine GC.seq ?_
  refine GC.region rfl ?_
  refine GL.yl (Yl.move rfl) rfl ?_
  refine GL.op ?_
  refine GO.callv _ T.en167 rfl rfl (fun w hw => nan_calls _ w) ?_
  refine GK.list ?_
  refine GL.yl (Yl.assign rfl) rfl ?_
  refine GL.nil ?_
  refine GE.then_n ?_
  refine GC.seq ?_
  refine GC.region rfl ?_
  refine GL.yl (Yl.move rfl) rfl ?_
  refine GL.op ?_
  refine GO.callv _ T.en167 rfl rfl (fun w hw => nan_calls _ w) ?_
  refine GK.list ?_
  refine GL.yl (Yl.assign rfl) rfl ?_
  refine GL.nil ?_
  refine GE.then_n ?_
  refine GC.seq ?_
  refine GC.seq ?_
  refine GC.region rfl ?_
  refine GL.yl (Yl.move rfl) rfl ?_
  refine GL.nil ?_
  refine GE.then_n ?_
  refine GC.re 11 rfl (rfl) ?_
  refine GC.cond_ff rfl ?_
  refine GC.skip ?_
  refine GE.then_n ?_
  refine GC.seq ?_
  refine GC.seq ?_
  refine GC.region rfl ?_
  refine GL.yl (Yl.move rfl) rfl ?_
  refine GL.nil ?_
  refine GE.then_n ?_
  refine GC.re 13 rfl (rfl) ?_
  refine GC.cond_ff rfl ?_
  refine GC.skip ?_
  refine GE.then_n ?_
  refine GC.seq ?_
  refine GC.seq ?_
  refine GC.region rfl ?_
  refine GL.yl (Yl.move rfl) rfl ?_
  refine GL.yl (Yl.move rfl) rfl ?_
  refine GL.yl (Yl.lss rfl rfl) rfl ?_
  refine GL.nil ?_
  refine GE.then_n ?_
  refine GC.cond_d rfl (fun hc => ?_) (fun hc => ?_)
  · skip
    have e : cmpS x y = -1 := by unfold cmpS; rw [if_pos (by omega)]
    refine GC.seq ?_
    refine GC.region rfl ?_
    refine GL.yl (Yl.assign rfl) rfl ?_
    refine GL.nil ?_
    refine GE.then_n ?_
    refine GC.ret ?_
    refine GE.then_ret ?_
    refine GE.ret1 rfl rfl (fun w hw => ?_)
    exact ⟨ret_eq (by rw [e]), hw.below⟩
  · skip
    refine GC.skip ?_
    refine GE.then_n ?_
    refine GC.seq ?_
    refine GC.seq ?_
    refine GC.region rfl ?_
    refine GL.yl (Yl.move rfl) rfl ?_
    refine GL.yl (Yl.move rfl) rfl ?_
    refine GL.yl (Yl.gtr rfl rfl) rfl ?_
    refine GL.nil ?_
    refine GE.then_n ?_
    refine GC.cond_d rfl (fun hd => ?_) (fun hd => ?_)
    · skip
      have e : cmpS x y = 1 := by unfold cmpS; rw [if_neg (by omega), if_pos (by omega)]
      refine GC.seq ?_
      refine GC.region rfl ?_
      refine GL.yl (Yl.assign rfl) rfl ?_
      refine GL.nil ?_
      refine GE.then_n ?_
      refine GC.ret ?_
      refine GE.then_ret ?_
      refine GE.ret1 rfl rfl (fun w hw => ?_)
      exact ⟨ret_eq (by rw [e]), hw.below⟩
    · skip
      have e : cmpS x y = 0 := by unfold cmpS; rw [if_neg (by omega), if_neg (by omega)]
      refine GC.skip ?_
      refine GE.then_n ?_
      refine GC.seq ?_
      refine GC.region rfl ?_
      refine GL.yl (Yl.assign rfl) rfl ?_
      refine GL.nil ?_
      refine GE.then_n ?_
      refine GC.ret ?_
      refine GE.ret1 rfl rfl (fun w hw => ?_)
      exact ⟨ret_eq (by rw [e]), hw.below⟩
theorem compare_calls (x y : BitVec 64) (w : World) : RetB Tryd.prog 28 [u64 x, u64 y] w (.int .i64 (cmpS x y)) := by
  refine calls_in Tryd.func28 rfl rfl ?_
  refine GC.seq ?_
  refine GC.region rfl ?_
  refine GL.yl (Yl.assign rfl) rfl ?_
  refine GL.nil ?_
  refine GE.then_n ?_
  refine GC.seq ?_
  refine GC.region rfl ?_
  refine GL.yl (Yl.move rfl) rfl ?_
  refine GL.yl (Yl.move rfl) rfl ?_
  refine GL.op ?_
  refine GO.callv _ T.en103 rfl rfl (fun w hw => cmp_calls _ _ w) ?_
  refine GK.list ?_
  refine GL.yl (Yl.assign rfl) rfl ?_
  refine GL.nil ?_
  refine GE.then_n ?_
  refine GC.ret ?_
  refine GE.ret1 rfl rfl (fun w hw => ?_)
  exact ⟨rfl, hw.below⟩

end Go.Proofs.YtligejpfbcdpmaaDoor
