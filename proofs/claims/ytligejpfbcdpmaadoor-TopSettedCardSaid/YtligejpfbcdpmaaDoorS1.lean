/- Contracts of package sets (but for its iterators), slices.Equal at ints, the rows of flags.
   No condition. -/
import Derived.Test.YtligejpfbcdpmaaDoorK3
namespace Go.Proofs.YtligejpfbcdpmaaDoor
open Go.Proofs.YtligejpfbcdpmaaDoor.Dv Go.RowKit
set_option linter.unusedVariables false
set_option linter.unusedSimpArgs false
attribute [local irreducible] Tryd.prog

/-- The set of one number. -/
def bit (k : Int) : BitVec 64 := if 0 ≤ k ∧ k ≤ 63 then 1#64 <<< k.toNat else 0#64
def ofS (l : List Int) : BitVec 64 := l.foldl (fun s k => s ||| bit k) 0#64
def unS (l : List (BitVec 64)) : BitVec 64 := l.foldl (fun s k => s ||| k) 0#64
def fullS (n : Int) : BitVec 64 := if n < 1 then 0#64 else if n > 63 then 18446744073709551615#64 else (1#64 <<< n.toNat) - 1#64
theorem ofS_snoc (l : List Int) (k : Int) : ofS (l ++ [k]) = ofS l ||| bit k := by simp [ofS]
theorem unS_snoc (l : List (BitVec 64)) (k : BitVec 64) : unS (l ++ [k]) = unS l ||| k := by simp [unS]
theorem take_snoc {α : Type} {l : List α} {k : Nat} {x : α} (h : l[k]? = some x) : l.take (k + 1) = l.take k ++ [x] := by
  obtain ⟨h1, h2⟩ := List.getElem?_eq_some_iff.1 h
  rw [List.take_succ_eq_append_getElem h1, h2]
theorem get_lt {α : Type} (l : List α) {k : Nat} (h : k < l.length) : ∃ x, l[k]? = some x := ⟨l[k], List.getElem?_eq_getElem h⟩

theorem bit_calls (k : Int) (w : World) : RetB Tryd.prog 97 [.int .i64 k] w (u64 (bit k)) := by
  refine calls_in Tryd.func97 rfl rfl ?_
  refine GC.seq ?_
  refine GC.region rfl ?_
  refine GL.yl (Yl.assign rfl) rfl ?_
  refine GL.nil ?_
  refine GE.then_n ?_
  refine GC.seq ?_
  refine GC.seq ?_
  refine GC.region rfl ?_
  refine GL.yl (Yl.move rfl) rfl ?_
  refine GL.yl (Yl.lss rfl rfl) rfl ?_
  refine GL.yl (Yl.move rfl) rfl ?_
  refine GL.bothd 5 rfl (fun hb => ?_) (fun hb => ?_)
  · skip
    have e : bit k = 0#64 := by unfold bit; rw [if_neg (by omega)]
    refine GL.skip rfl rfl ?_
    refine GL.skip rfl rfl ?_
    refine GL.yl (Yl.pick_t rfl rfl) rfl ?_
    refine GL.nil ?_
    refine GE.then_n ?_
    refine GC.cond_tt rfl ?_
    refine GC.seq ?_
    refine GC.region rfl ?_
    refine GL.yl (Yl.assign rfl) rfl ?_
    refine GL.nil ?_
    refine GE.then_n ?_
    refine GC.ret ?_
    refine GE.then_ret ?_
    refine GE.ret1 rfl rfl (fun w hw => ?_)
    exact ⟨ret_eq (by rw [e] <;> rfl), hw.below⟩
  · skip
    skip
    refine GL.want rfl ?_
    refine GL.yl (Yl.move rfl) rfl ?_
    refine GL.want rfl ?_
    refine GL.yl (Yl.gtr rfl rfl) rfl ?_
    refine GL.yl (Yl.pick_f rfl rfl) rfl ?_
    refine GL.nil ?_
    refine GE.then_n ?_
    refine GC.cond_d rfl (fun hc => ?_) (fun hc => ?_)
    · skip
      have e : bit k = 0#64 := by unfold bit; rw [if_neg (by omega)]
      refine GC.seq ?_
      refine GC.region rfl ?_
      refine GL.yl (Yl.assign rfl) rfl ?_
      refine GL.nil ?_
      refine GE.then_n ?_
      refine GC.ret ?_
      refine GE.then_ret ?_
      refine GE.ret1 rfl rfl (fun w hw => ?_)
      exact ⟨ret_eq (by rw [e] <;> rfl), hw.below⟩
    · skip
      have e : bit k = 1#64 <<< k.toNat := by unfold bit; rw [if_pos (by omega)]
      refine GC.skip ?_
      refine GE.then_n ?_
      refine GC.seq ?_
      refine GC.region rfl ?_
      refine GL.yl (Yl.move rfl) rfl ?_
      refine GL.yl (Yl.ushl (show ev _ _ = some (u64 1#64) from rfl) rfl (by omega)) rfl ?_
      refine GL.yl (Yl.assign rfl) rfl ?_
      refine GL.nil ?_
      refine GE.then_n ?_
      refine GC.ret ?_
      refine GE.ret1 rfl rfl (fun w hw => ?_)
      exact ⟨ret_eq (by rw [e] <;> rfl), hw.below⟩

theorem of_calls (v : Value) (l : List Int) (w : World) (hl : l.length ≤ 9223372036854775806) (h : IsSl w v (l.map (.int .i64))) : RetB Tryd.prog 10 [v] w (u64 (ofS l)) := by
  obtain ⟨p, c, rfl, hc, hx⟩ := h
  rw [List.length_map] at *
  refine calls_in Tryd.func10 rfl rfl ?_
  refine GC.seq ?_
  refine GC.region rfl ?_
  refine GL.yl (Yl.assign rfl) rfl ?_
  refine GL.nil ?_
  refine GE.then_n ?_
  refine GC.seq ?_
  refine GC.seq ?_
  refine GC.region rfl ?_
  refine GL.yl (Yl.move rfl) rfl ?_
  refine GL.yl (Yl.len 3 Tryd.underlying27 rfl) rfl ?_
  refine GL.yl (Yl.move rfl) rfl ?_
  refine GL.nil ?_
  refine GE.then_n ?_
  refine GC.block ?_
  refine GC.loop (σ := Nat) (fun s => s ≤ l.length) (fun s => l.length - s) (fun s => []) (fun s => [(7, .int .i64 s), (2, u64 (ofS (l.take s))), (5, .slice p l.length c), (6, .int .i64 l.length)]) (0) ?_ ?_ ?_ ?_
  · exact Nat.zero_le _
  · exact Sub.cons rfl (Sub.cons rfl (Sub.cons rfl (Sub.cons rfl (Sub.nil _))))
  · exact HSub.nil _
  · skip
    intro s hs
    refine GC.seq ?_
    refine GC.region rfl ?_
    refine GL.yl (Yl.lss rfl rfl) rfl ?_
    refine GL.nil ?_
    refine GE.then_n ?_
    refine GC.seq ?_
    refine GC.cond_d rfl (fun hc => ?_) (fun hc => ?_)
    · skip
      obtain ⟨y, hy⟩ := get_lt l (k := s) (by omega)
      obtain ⟨b, o, rfl, hb⟩ := hx s (.int .i64 y) (by simp [hy])
      refine GC.skip ?_
      refine GE.then_n ?_
      refine GC.seq ?_
      refine GC.block ?_
      refine GC.seq ?_
      refine GC.region rfl ?_
      refine GL.yl (Yl.indexSl Tryd.underlying27 T.sz3 rfl rfl (by omega) (by omega)) rfl ?_
      refine GL.yl (Yl.loadCell (v := .int .i64 y) T.sc3 rfl (fun w hw => by simpa using hw.cell0 rfl hb)) rfl ?_
      refine GL.yl (Yl.assign rfl) rfl ?_
      refine GL.nil ?_
      refine GE.then_n ?_
      refine GC.region rfl ?_
      refine GL.yl (Yl.move rfl) rfl ?_
      refine GL.yl (Yl.move rfl) rfl ?_
      refine GL.op ?_
      refine GO.callv _ T.en97 rfl rfl (fun w hw => bit_calls _ w) ?_
      refine GK.list ?_
      refine GL.yl (Yl.uor rfl rfl) rfl ?_
      refine GL.yl (Yl.assign rfl) rfl ?_
      refine GL.nil ?_
      refine GE.in_n ?_
      refine GE.then_n ?_
      refine GC.region rfl ?_
      refine GL.yl (Yl.add rfl rfl (by omega) (by omega)) rfl ?_
      refine GL.yl (Yl.move rfl) rfl ?_
      refine GL.nil ?_
      refine GE.again (s + 1) (by omega) (by omega) ?_ ?_
      · exact Sub.cons rfl (Sub.cons' rfl (by rw [take_snoc hy, ofS_snoc]) (Sub.cons rfl (Sub.cons rfl (Sub.nil _))))
      · exact HSub.nil _
    · skip
      skip
      refine GC.exit ?_
      refine GE.then_exit ?_
      refine GE.then_exit ?_
      refine GE.in_hit ?_
      refine GE.then_n ?_
      refine GC.seq ?_
      refine GC.region rfl ?_
      refine GL.yl (Yl.move rfl) rfl ?_
      refine GL.yl (Yl.assign rfl) rfl ?_
      refine GL.nil ?_
      refine GE.then_n ?_
      refine GC.ret ?_
      refine GE.ret1 rfl rfl (fun w hw => ?_)
      have e : s = l.length := by omega
      exact ⟨ret_eq (by rw [e, List.take_length]), hw.below⟩

theorem meet_calls (r s : BitVec 64) (w : World) : RetB Tryd.prog 14 [u64 r, u64 s] w (u64 (r &&& s)) := by
  refine calls_in Tryd.func14 rfl rfl ?_
  refine GC.seq ?_
  refine GC.region rfl ?_
  refine GL.yl (Yl.assign rfl) rfl ?_
  refine GL.nil ?_
  refine GE.then_n ?_
  refine GC.seq ?_
  refine GC.region rfl ?_
  refine GL.yl (Yl.move rfl) rfl ?_
  refine GL.yl (Yl.move rfl) rfl ?_
  refine GL.yl (Yl.uand rfl rfl) rfl ?_
  refine GL.yl (Yl.assign rfl) rfl ?_
  refine GL.nil ?_
  refine GE.then_n ?_
  refine GC.ret ?_
  refine GE.ret1 rfl rfl (fun w hw => ?_)
  exact ⟨rfl, hw.below⟩
theorem minus_calls (r s : BitVec 64) (w : World) : RetB Tryd.prog 15 [u64 r, u64 s] w (u64 (r &&& ~~~s)) := by
  refine calls_in Tryd.func15 rfl rfl ?_
  refine GC.seq ?_
  refine GC.region rfl ?_
  refine GL.yl (Yl.assign rfl) rfl ?_
  refine GL.nil ?_
  refine GE.then_n ?_
  refine GC.seq ?_
  refine GC.region rfl ?_
  refine GL.yl (Yl.move rfl) rfl ?_
  refine GL.yl (Yl.move rfl) rfl ?_
  refine GL.yl (Yl.uandnot rfl rfl) rfl ?_
  refine GL.yl (Yl.assign rfl) rfl ?_
  refine GL.nil ?_
  refine GE.then_n ?_
  refine GC.ret ?_
  refine GE.ret1 rfl rfl (fun w hw => ?_)
  exact ⟨rfl, hw.below⟩
theorem within_calls (r s : BitVec 64) (w : World) : RetB Tryd.prog 16 [u64 r, u64 s] w (.bool (decide (r &&& ~~~s = 0#64))) := by
  refine calls_in Tryd.func16 rfl rfl ?_
  refine GC.seq ?_
  refine GC.region rfl ?_
  refine GL.yl (Yl.assign rfl) rfl ?_
  refine GL.nil ?_
  refine GE.then_n ?_
  refine GC.seq ?_
  refine GC.region rfl ?_
  refine GL.yl (Yl.move rfl) rfl ?_
  refine GL.yl (Yl.move rfl) rfl ?_
  refine GL.yl (Yl.uandnot rfl rfl) rfl ?_
  refine GL.yl (Yl.ueql rfl (show ev _ _ = some (u64 0#64) from rfl)) rfl ?_
  refine GL.yl (Yl.assign rfl) rfl ?_
  refine GL.nil ?_
  refine GE.then_n ?_
  refine GC.ret ?_
  refine GE.ret1 rfl rfl (fun w hw => ?_)
  exact ⟨rfl, hw.below⟩
theorem has_calls (r : BitVec 64) (k : Int) (w : World) : RetB Tryd.prog 17 [u64 r, .int .i64 k] w (.bool (decide (r &&& bit k ≠ 0#64))) := by
  refine calls_in Tryd.func17 rfl rfl ?_
  refine GC.seq ?_
  refine GC.region rfl ?_
  refine GL.yl (Yl.assign rfl) rfl ?_
  refine GL.nil ?_
  refine GE.then_n ?_
  refine GC.seq ?_
  refine GC.region rfl ?_
  refine GL.yl (Yl.move rfl) rfl ?_
  refine GL.yl (Yl.move rfl) rfl ?_
  refine GL.op ?_
  refine GO.callv _ T.en97 rfl rfl (fun w hw => bit_calls _ w) ?_
  refine GK.list ?_
  refine GL.yl (Yl.uand rfl rfl) rfl ?_
  refine GL.yl (Yl.uneq rfl (show ev _ _ = some (u64 0#64) from rfl)) rfl ?_
  refine GL.yl (Yl.assign rfl) rfl ?_
  refine GL.nil ?_
  refine GE.then_n ?_
  refine GC.ret ?_
  refine GE.ret1 rfl rfl (fun w hw => ?_)
  exact ⟨rfl, hw.below⟩
theorem with_calls (r : BitVec 64) (k : Int) (w : World) : RetB Tryd.prog 18 [u64 r, .int .i64 k] w (u64 (r ||| bit k)) := by
  refine calls_in Tryd.func18 rfl rfl ?_
  refine GC.seq ?_
  refine GC.region rfl ?_
  refine GL.yl (Yl.assign rfl) rfl ?_
  refine GL.nil ?_
  refine GE.then_n ?_
  refine GC.seq ?_
  refine GC.region rfl ?_
  refine GL.yl (Yl.move rfl) rfl ?_
  refine GL.yl (Yl.move rfl) rfl ?_
  refine GL.op ?_
  refine GO.callv _ T.en97 rfl rfl (fun w hw => bit_calls _ w) ?_
  refine GK.list ?_
  refine GL.yl (Yl.uor rfl rfl) rfl ?_
  refine GL.yl (Yl.assign rfl) rfl ?_
  refine GL.nil ?_
  refine GE.then_n ?_
  refine GC.ret ?_
  refine GE.ret1 rfl rfl (fun w hw => ?_)
  exact ⟨rfl, hw.below⟩
theorem without_calls (r : BitVec 64) (k : Int) (w : World) : RetB Tryd.prog 19 [u64 r, .int .i64 k] w (u64 (r &&& ~~~bit k)) := by
  refine calls_in Tryd.func19 rfl rfl ?_
  refine GC.seq ?_
  refine GC.region rfl ?_
  refine GL.yl (Yl.assign rfl) rfl ?_
  refine GL.nil ?_
  refine GE.then_n ?_
  refine GC.seq ?_
  refine GC.region rfl ?_
  refine GL.yl (Yl.move rfl) rfl ?_
  refine GL.yl (Yl.move rfl) rfl ?_
  refine GL.op ?_
  refine GO.callv _ T.en97 rfl rfl (fun w hw => bit_calls _ w) ?_
  refine GK.list ?_
  refine GL.yl (Yl.uandnot rfl rfl) rfl ?_
  refine GL.yl (Yl.assign rfl) rfl ?_
  refine GL.nil ?_
  refine GE.then_n ?_
  refine GC.ret ?_
  refine GE.ret1 rfl rfl (fun w hw => ?_)
  exact ⟨rfl, hw.below⟩
theorem full_calls (n : Int) (w : World) : RetB Tryd.prog 20 [.int .i64 n] w (u64 (fullS n)) := by
  refine calls_in Tryd.func20 rfl rfl ?_
  refine GC.seq ?_
  refine GC.region rfl ?_
  refine GL.yl (Yl.assign rfl) rfl ?_
  refine GL.nil ?_
  refine GE.then_n ?_
  refine GC.seq ?_
  refine GC.block ?_
  refine GC.seq ?_
  refine GC.region rfl ?_
  refine GL.yl (Yl.move rfl) rfl ?_
  refine GL.yl (Yl.lss rfl rfl) rfl ?_
  refine GL.yl (Yl.assign rfl) rfl ?_
  refine GL.nil ?_
  refine GE.then_n ?_
  refine GC.cond_d rfl (fun hc => ?_) (fun hc => ?_)
  · skip
    have e : fullS n = 0#64 := by unfold fullS; rw [if_pos (by omega)]
    refine GC.seq ?_
    refine GC.region rfl ?_
    refine GL.yl (Yl.assign rfl) rfl ?_
    refine GL.nil ?_
    refine GE.then_n ?_
    refine GC.ret ?_
    refine GE.in_ret ?_
    refine GE.then_ret ?_
    refine GE.ret1 rfl rfl (fun w hw => ?_)
    exact ⟨ret_eq (by rw [e] <;> rfl), hw.below⟩
  · skip
    skip
    refine GC.seq ?_
    refine GC.region rfl ?_
    refine GL.yl (Yl.move rfl) rfl ?_
    refine GL.yl (Yl.gtr rfl rfl) rfl ?_
    refine GL.yl (Yl.assign rfl) rfl ?_
    refine GL.nil ?_
    refine GE.then_n ?_
    refine GC.cond_d rfl (fun hc => ?_) (fun hc => ?_)
    · skip
      have e : fullS n = 18446744073709551615#64 := by unfold fullS; rw [if_neg (by omega), if_pos (by omega)]
      refine GC.seq ?_
      refine GC.region rfl ?_
      refine GL.yl (Yl.assign rfl) rfl ?_
      refine GL.nil ?_
      refine GE.then_n ?_
      refine GC.ret ?_
      refine GE.in_ret ?_
      refine GE.then_ret ?_
      refine GE.ret1 rfl rfl (fun w hw => ?_)
      exact ⟨ret_eq (by rw [e] <;> rfl), hw.below⟩
    · skip
      have e : fullS n = (1#64 <<< n.toNat) - 1#64 := by unfold fullS; rw [if_neg (by omega), if_neg (by omega)]
      refine GC.skip ?_
      refine GE.in_n ?_
      refine GE.then_n ?_
      refine GC.seq ?_
      refine GC.region rfl ?_
      refine GL.yl (Yl.move rfl) rfl ?_
      refine GL.yl (Yl.ushl (show ev _ _ = some (u64 1#64) from rfl) rfl (by omega)) rfl ?_
      refine GL.yl (Yl.usub rfl (show ev _ _ = some (u64 1#64) from rfl)) rfl ?_
      refine GL.yl (Yl.assign rfl) rfl ?_
      refine GL.nil ?_
      refine GE.then_n ?_
      refine GC.ret ?_
      refine GE.ret1 rfl rfl (fun w hw => ?_)
      exact ⟨ret_eq (by rw [e] <;> rfl), hw.below⟩
theorem union_calls (v : Value) (l : List (BitVec 64)) (w : World) (hl : l.length ≤ 9223372036854775806) (h : IsSl w v (l.map u64)) : RetB Tryd.prog 13 [v] w (u64 (unS l)) := by
  obtain ⟨p, c, rfl, hc, hx⟩ := h
  rw [List.length_map] at *
  refine calls_in Tryd.func13 rfl rfl ?_
  refine GC.seq ?_
  refine GC.region rfl ?_
  refine GL.yl (Yl.assign rfl) rfl ?_
  refine GL.nil ?_
  refine GE.then_n ?_
  refine GC.seq ?_
  refine GC.seq ?_
  refine GC.region rfl ?_
  refine GL.yl (Yl.move rfl) rfl ?_
  refine GL.yl (Yl.len 29 Tryd.underlying61 rfl) rfl ?_
  refine GL.yl (Yl.move rfl) rfl ?_
  refine GL.nil ?_
  refine GE.then_n ?_
  refine GC.block ?_
  refine GC.loop (σ := Nat) (fun s => s ≤ l.length) (fun s => l.length - s) (fun s => []) (fun s => [(7, .int .i64 s), (2, u64 (unS (l.take s))), (5, .slice p l.length c), (6, .int .i64 l.length)]) (0) ?_ ?_ ?_ ?_
  · exact Nat.zero_le _
  · exact Sub.cons rfl (Sub.cons rfl (Sub.cons rfl (Sub.cons rfl (Sub.nil _))))
  · exact HSub.nil _
  · skip
    intro s hs
    refine GC.seq ?_
    refine GC.region rfl ?_
    refine GL.yl (Yl.lss rfl rfl) rfl ?_
    refine GL.nil ?_
    refine GE.then_n ?_
    refine GC.seq ?_
    refine GC.cond_d rfl (fun hc => ?_) (fun hc => ?_)
    · skip
      obtain ⟨y, hy⟩ := get_lt l (k := s) (by omega)
      obtain ⟨b, o, rfl, hb⟩ := hx s (u64 y) (by simp [hy])
      refine GC.skip ?_
      refine GE.then_n ?_
      refine GC.seq ?_
      refine GC.block ?_
      refine GC.seq ?_
      refine GC.region rfl ?_
      refine GL.yl (Yl.indexSl Tryd.underlying61 T.sz29 rfl rfl (by omega) (by omega)) rfl ?_
      refine GL.yl (Yl.loadCell (v := u64 y) T.sc29 rfl (fun w hw => by simpa using hw.cell0 rfl hb)) rfl ?_
      refine GL.yl (Yl.assign rfl) rfl ?_
      refine GL.nil ?_
      refine GE.then_n ?_
      refine GC.region rfl ?_
      refine GL.yl (Yl.move rfl) rfl ?_
      refine GL.yl (Yl.move rfl) rfl ?_
      refine GL.yl (Yl.uor rfl rfl) rfl ?_
      refine GL.yl (Yl.assign rfl) rfl ?_
      refine GL.nil ?_
      refine GE.in_n ?_
      refine GE.then_n ?_
      refine GC.region rfl ?_
      refine GL.yl (Yl.add rfl rfl (by omega) (by omega)) rfl ?_
      refine GL.yl (Yl.move rfl) rfl ?_
      refine GL.nil ?_
      refine GE.again (s + 1) (by omega) (by omega) ?_ ?_
      · exact Sub.cons rfl (Sub.cons' rfl (by rw [take_snoc hy, unS_snoc]) (Sub.cons rfl (Sub.cons rfl (Sub.nil _))))
      · exact HSub.nil _
    · skip
      skip
      refine GC.exit ?_
      refine GE.then_exit ?_
      refine GE.then_exit ?_
      refine GE.in_hit ?_
      refine GE.then_n ?_
      refine GC.seq ?_
      refine GC.region rfl ?_
      refine GL.yl (Yl.move rfl) rfl ?_
      refine GL.yl (Yl.assign rfl) rfl ?_
      refine GL.nil ?_
      refine GE.then_n ?_
      refine GC.ret ?_
      refine GE.ret1 rfl rfl (fun w hw => ?_)
      have e : s = l.length := by omega
      exact ⟨ret_eq (by rw [e, List.take_length]), hw.below⟩

end Go.Proofs.YtligejpfbcdpmaaDoor
