/- Contracts: the texts of sets and of rows of flags.
   No condition. -/
import Derived.Test.YtligejpfbcdpmaaDoorS5
import Derived.Test.YtligejpfbcdpmaaDoorL1
namespace Go.Proofs.YtligejpfbcdpmaaDoor
open Go.Proofs.YtligejpfbcdpmaaDoor.Dv Go.RowKit
set_option linter.unusedVariables false
set_option linter.unusedSimpArgs false
attribute [local irreducible] Tryd.prog

theorem itoa_calls (k : Nat) (hk : k < 100) (w : World) : RetB Tryd.prog 27 [.int .i64 k] w (str (Lib.decDigits k)) :=
  (Tryd.strconv_Itoa_small k hk w).mono fun e w' ⟨h1, h2⟩ => ⟨h1, by rw [h2]; exact Below.refl _ _⟩
theorem digits_len {k : Nat} (hk : k < 100) : (Lib.decDigits k).length ≤ 2 := by
  rw [Lib.decDigits]
  split
  · simp
  · rw [Lib.decDigits, dif_pos (by omega)]
    simp
theorem joinTail_len (sep : List UInt8) (M : Nat) : ∀ (r : List (List UInt8)), (∀ x ∈ r, x.length ≤ M) → (Lib.joinTail sep r).length ≤ r.length * (M + sep.length)
  | [], _ => by simp [Lib.joinTail]
  | x :: r, h => by
    have h1 := joinTail_len sep M r (fun y hy => h y (by simp [hy]))
    have h2 := h x (by simp)
    unfold Lib.joinTail at h1 ⊢
    simp only [List.map_cons, List.flatten_cons, List.length_append, List.length_cons, Nat.add_mul, Nat.one_mul] at h1 ⊢
    omega
theorem join_len (sep : List UInt8) (M : Nat) (l : List (List UInt8)) (h : ∀ x ∈ l, x.length ≤ M) : (Lib.join l sep).length ≤ l.length * (M + sep.length) := by
  cases l with
  | nil => simp [Lib.join_nil]
  | cons x r =>
    have h1 := joinTail_len sep M r (fun y hy => h y (by simp [hy]))
    have h2 := h x (by simp)
    rw [Lib.join_cons]
    simp only [List.length_append, List.length_cons, Nat.add_mul, Nat.one_mul] at h1 ⊢
    omega
theorem join_calls (v : Value) (l : List (List UInt8)) (sep : List UInt8) (w : World) (h : IsSl w v (l.map str)) (hN : l.length ≤ 1000000) (hlen : (Lib.join l sep).length ≤ 140737488355328) : RetB Tryd.prog 68 [v, str sep] w (str (Lib.join l sep)) := by
  obtain ⟨p, c, rfl, hc, hx⟩ := h
  cases l with
  | nil => exact (Tryd.strings_Join_none p c ⟨sep.toArray⟩ w).mono fun e w' ⟨h1, h2⟩ => ⟨h1, by rw [h2]; exact Below.refl _ _⟩
  | cons x r =>
    obtain ⟨b, o, rfl, hb⟩ := hx 0 (str x) rfl
    have he : ((x :: r).map fun y => (⟨y.toArray⟩ : ByteArray)).map (·.data.toList) = x :: r := by
      rw [List.map_map]
      exact List.map_id _
    have h := Tryd.strings_Join b o c ((x :: r).map fun y => ⟨y.toArray⟩) ⟨sep.toArray⟩ w (fun j y hy => by
      rw [List.getElem?_map, Option.map_eq_some_iff] at hy
      obtain ⟨z, hz, rfl⟩ := hy
      obtain ⟨b', o', e, h⟩ := hx j (str z) (by rw [List.getElem?_map, hz]; rfl)
      cases e
      exact h) (World.block_lt_of_cell? _ _ hb) (by rw [List.length_map]; omega) (by rw [List.length_map] at hc ⊢; exact hc) (by rw [he]; exact hlen)
    rw [he, List.length_map] at h
    rw [List.length_map]
    exact h
theorem name_calls (k : Nat) (hk : k < 100) (w : World) : RetB Tryd.prog 26 [.int .i64 k] w (str ([110] ++ Lib.decDigits k)) := by
  have hd := digits_len hk
  refine calls_in Tryd.func26 rfl rfl ?_
  refine GC.seq ?_
  refine GC.region rfl ?_
  refine GL.yl (Yl.assign rfl) rfl ?_
  refine GL.nil ?_
  refine GE.then_n ?_
  refine GC.seq ?_
  refine GC.region rfl ?_
  refine GL.yl (Yl.move rfl) rfl ?_
  refine GL.op ?_
  refine GO.callv _ T.en27 rfl rfl (fun w hw => itoa_calls k hk w) ?_
  refine GK.list ?_
  refine GL.yl (Yl.sadd (b := [110]) rfl rfl (by simp; omega)) rfl ?_
  refine GL.yl (Yl.assign rfl) rfl ?_
  refine GL.nil ?_
  refine GE.then_n ?_
  refine GC.ret ?_
  refine GE.ret1 rfl rfl (fun w hw => ?_)
  exact ⟨rfl, hw.below⟩
/-- The text of some numbers. -/
def itemS (pfx : List UInt8) (k : Nat) : List UInt8 := pfx ++ Lib.decDigits k
def textS (pfx : List UInt8) (l : List Nat) : List UInt8 := [123] ++ Lib.join (l.map (itemS pfx)) [32] ++ [125]
theorem items_len {pfx : List UInt8} (hp : pfx.length ≤ 1) {l : List Nat} (hl : ∀ k ∈ l, k < 64) (hn : l.length ≤ 64) : (Lib.join (l.map (itemS pfx)) [32]).length ≤ 256 := by
  have h := join_len [32] 3 (l.map (itemS pfx)) (fun x hx => by
    obtain ⟨k, hk, rfl⟩ := List.mem_map.1 hx
    have := digits_len (show k < 100 by have := hl k hk; omega)
    unfold itemS
    rw [List.length_append]; omega)
  rw [List.length_map, List.length_singleton] at h
  omega
theorem text_calls (s : BitVec 64) (nm : Value) (g : FuncId) (pfx : List UInt8) (w : World) (hT : Tab64 w) (hnm : (nm = .nilFunc ∧ g = 27) ∨ nm = .func (.func g) #[] #[]) (hen : Dv.Enters Tryd.prog g) (hp : pfx.length ≤ 1)
    (hg : ∀ k : Nat, k < 100 → ∀ w, RetB Tryd.prog g [.int .i64 k] w (str (itemS pfx k))) : RetB Tryd.prog 29 [u64 s, nm] w (str (textS pfx (nums s))) := by
  have hlen := items_len hp (fun k hk => nums_lt hk) (nums_len s)
  have h64 := nums_len s
  rcases hnm with ⟨rfl, rfl⟩ | rfl
  · skip
    refine calls_in Tryd.func29 rfl rfl ?_
    refine GC.seq ?_
    refine GC.region rfl ?_
    refine GL.op ?_
    refine GO.box 3 rfl rfl ?_
    intro b3 hb3
    refine GK.list ?_
    refine GL.yl (Yl.assign rfl) rfl ?_
    refine GL.nil ?_
    refine GE.then_n ?_
    refine GC.seq ?_
    refine GC.seq ?_
    refine GC.region rfl ?_
    refine GL.yl (Yl.load 3 rfl T.sc47 rfl rfl) rfl ?_
    refine GL.yl (Yl.fnil_t Tryd.underlying47 rfl rfl) rfl ?_
    refine GL.nil ?_
    refine GE.then_n ?_
    refine GC.re 8 rfl (rfl) ?_
    refine GC.cond_tt rfl ?_
    refine GC.region rfl ?_
    refine GL.op ?_
    refine GO.store 3 rfl T.sz47 rfl rfl rfl (by first | (simp; done) | (simp; omega) | decide) rfl ?_
    refine GK.list ?_
    refine GL.nil ?_
    refine GE.then_n ?_
    refine GC.seq ?_
    refine GC.region rfl ?_
    refine GL.op ?_
    refine GO.alloc 5 T.zr55 rfl ?_
    intro b5 hb5
    refine GK.list ?_
    refine GL.nil ?_
    refine GE.then_n ?_
    refine GC.seq ?_
    refine GC.seq ?_
    refine GC.region rfl ?_
    refine GL.yl (Yl.move rfl) rfl ?_
    refine GL.op ?_
    refine GO.calln 40 (fun b : Nat => .func (.func 101) #[] #[.pointer (some ⟨b, 0, none⟩)]) (fun b => box b #[u64 s] 29) (fun _ => True) T.en25 rfl rfl (fun w hw => each_calls s w) ?_
    intro b40 _
    refine GK.list ?_
    refine GL.nil ?_
    refine GE.then_n ?_
    refine GC.block ?_
    refine GC.nilrow 60 9 1 ?_
    refine GC.range (σ := Value × List Nat) (τ := Unit) (ι := Unit) 40 rfl rfl rfl (each_own s b40) rfl (hT) (fun _ => rfl) rfl (fun pre s => s.2 = pre) (fun s => [(5, box b5 #[s.1] 55), (3, box b3 #[.func (.func 27) #[] #[]] 47), (60, row s.1 9 1 s.2.length ((s.2.map (itemS pfx)).map str))]) (fun _ _ _ => False) (fun _ => []) ((.slice none 0 0, [])) (rfl) ((HSub.cons rfl (HSub.cons rfl (HSub.cons rfl (HSub.nil _))))) (fun _ => ⟨rfl, rfl⟩) (fun _ => ⟨rfl, rfl⟩) (fun _ _ _ => True) (fun x s i => [(5, box b5 #[s.1] 55), (3, box b3 #[.func (.func 27) #[] #[]] 47), (60, row s.1 9 1 s.2.length ((s.2.map (itemS pfx)).map str))]) (fun x s i => [(5, .pointer (some ⟨b5, 0, none⟩)), (3, .pointer (some ⟨b3, 0, none⟩)), (6, ivN x)]) ?_ ?_ ?_ ?_
    · skip
      intro Z l pre x s hpre hrel
      skip
      refine GC.region rfl ?_
      refine GL.yl (Yl.assign rfl) rfl ?_
      refine GL.nil ?_
      refine GE.met (()) trivial ?_ ?_
      · exact Sub.cons rfl (Sub.cons rfl (Sub.cons rfl (Sub.nil _)))
      · exact HSub.refl _
    · skip
      intro Z l pre x s i hpre hrel hJ
      obtain ⟨v, l2⟩ := s
      replace hrel : l2 = pre := hrel
      subst hrel
      have hl2 := hpre.length_le
      rw [List.length_append, List.length_singleton] at hl2
      have hxm : x < 64 := nums_lt (hpre.subset (by simp))
      refine GC.block ?_
      refine GC.drawq T.mixed rfl 6 ([(5, box b5 #[v] 55), (3, box b3 #[.func (.func 27) #[] #[]] 47)]) ([]) ?_
      refine GQ.take 0 rfl (by kernel_rfl) (by kernel_rfl) (by kernel_rfl) (by kernel_rfl) (by kernel_rfl) (by kernel_rfl) rfl (Yl.load 5 rfl T.sc55 rfl rfl) rfl (HSub.cons rfl (HSub.cons rfl (HSub.nil _))) ?_
      refine GQ.take 1 rfl (by kernel_rfl) (by kernel_rfl) (by kernel_rfl) (by kernel_rfl) (by kernel_rfl) (by kernel_rfl) rfl (Yl.load 3 rfl T.sc47 rfl rfl) rfl (HSub.cons rfl (HSub.cons rfl (HSub.nil _))) ?_
      refine GQ.take 2 rfl (by kernel_rfl) (by kernel_rfl) (by kernel_rfl) (by kernel_rfl) (by kernel_rfl) (by kernel_rfl) rfl (Yl.move rfl) rfl (HSub.cons rfl (HSub.cons rfl (HSub.nil _))) ?_
      refine GQ.one 3 (by kernel_rfl) rfl rfl ?_
      refine GO.callw _ (f := 27) (cap := []) rfl T.en27 rfl rfl (fun w hw => hg x (by omega) w) ?_
      refine GK.any1 (by kernel_rfl) (HSub.cons rfl (HSub.cons rfl (HSub.nil _))) ?_
      refine GQ.one 4 (by kernel_rfl) rfl rfl ?_
      refine GO.buildSlice 16 Tryd.underlying55 T.zr9 T.sz9 rfl rfl rfl (sliceCells_one rfl rfl) rfl ?_
      intro b16 hb16
      refine GK.any1 (by kernel_rfl) (HSub.cons rfl (HSub.cons rfl (HSub.nil _))) ?_
      refine GQ.one 5 (by kernel_rfl) rfl rfl ?_
      refine GO.appendBox 60 16 rfl rfl Tryd.underlying55 T.zr9 T.sz9 T.by9 rfl (by decide) rfl rfl rfl (by intro u hu; simp at hu; subst hu; rfl) (by show l2.length + 1 ≤ _; omega) (by show (l2.length + 1) * 16 ≤ _; omega) (by decide) rfl ?_
      intro g17 c17
      refine GK.any1 (by kernel_rfl) (HSub.cons rfl (HSub.cons rfl (HSub.nil _))) ?_
      refine GQ.one 6 (by kernel_rfl) rfl rfl ?_
      refine GO.store 5 rfl T.sz55 rfl rfl rfl (by first | (simp; done) | (simp; omega) | decide) rfl ?_
      refine GK.any2 (by kernel_rfl) (HSub.nil _) ?_
      refine GQ.done (by kernel_rfl) ?_
      refine GE.in_n ?_
      refine GE.round_n ((.slice (some ⟨g17, 0, none⟩) (l2.length + 1) c17, l2 ++ [x])) rfl (HSub.cons rfl (HSub.cons rfl (HSub.cons' rfl (by simp) (HSub.nil _))))
    · skip
      rintro ⟨v, l2⟩ hrel
      replace hrel : l2 = nums s := hrel
      subst hrel
      refine GE.in_n ?_
      refine GE.then_n ?_
      refine GC.seq ?_
      refine GC.region rfl ?_
      refine GL.yl (Yl.load 5 rfl T.sc55 rfl rfl) rfl ?_
      refine GL.op ?_
      refine GO.callv _ T.en68 (show evs _ _ = some [v, str [32]] from rfl) rfl (fun w hw => join_calls v ((nums s).map (itemS pfx)) [32] w (hw.rowSl (k := 60) rfl) (by rw [List.length_map]; omega) (by omega)) ?_
      refine GK.list ?_
      refine GL.yl (Yl.sadd (b := [123]) rfl rfl (by simp; omega)) rfl ?_
      refine GL.yl (Yl.sadd (c := [125]) rfl rfl (by simp; omega)) rfl ?_
      refine GL.yl (Yl.assign rfl) rfl ?_
      refine GL.nil ?_
      refine GE.then_n ?_
      refine GC.ret ?_
      refine GE.ret1 rfl rfl (fun w hw => ?_)
      exact ⟨rfl, hw.below⟩
    · skip
      intro c pre t hpre hout
      exact hout.elim
  · skip
    refine calls_in Tryd.func29 rfl rfl ?_
    refine GC.seq ?_
    refine GC.region rfl ?_
    refine GL.op ?_
    refine GO.box 3 rfl rfl ?_
    intro b3 hb3
    refine GK.list ?_
    refine GL.yl (Yl.assign rfl) rfl ?_
    refine GL.nil ?_
    refine GE.then_n ?_
    refine GC.seq ?_
    refine GC.seq ?_
    refine GC.region rfl ?_
    refine GL.yl (Yl.load 3 rfl T.sc47 rfl rfl) rfl ?_
    refine GL.yl (Yl.fnil_f Tryd.underlying47 rfl rfl) rfl ?_
    refine GL.nil ?_
    refine GE.then_n ?_
    refine GC.re 8 rfl (rfl) ?_
    refine GC.cond_ff rfl ?_
    refine GC.skip ?_
    refine GE.then_n ?_
    refine GC.seq ?_
    refine GC.region rfl ?_
    refine GL.op ?_
    refine GO.alloc 5 T.zr55 rfl ?_
    intro b5 hb5
    refine GK.list ?_
    refine GL.nil ?_
    refine GE.then_n ?_
    refine GC.seq ?_
    refine GC.seq ?_
    refine GC.region rfl ?_
    refine GL.yl (Yl.move rfl) rfl ?_
    refine GL.op ?_
    refine GO.calln 40 (fun b : Nat => .func (.func 101) #[] #[.pointer (some ⟨b, 0, none⟩)]) (fun b => box b #[u64 s] 29) (fun _ => True) T.en25 rfl rfl (fun w hw => each_calls s w) ?_
    intro b40 _
    refine GK.list ?_
    refine GL.nil ?_
    refine GE.then_n ?_
    refine GC.block ?_
    refine GC.nilrow 60 9 1 ?_
    refine GC.range (σ := Value × List Nat) (τ := Unit) (ι := Unit) 40 rfl rfl rfl (each_own s b40) rfl (hT) (fun _ => rfl) rfl (fun pre s => s.2 = pre) (fun s => [(5, box b5 #[s.1] 55), (3, box b3 #[.func (.func g) #[] #[]] 47), (60, row s.1 9 1 s.2.length ((s.2.map (itemS pfx)).map str))]) (fun _ _ _ => False) (fun _ => []) ((.slice none 0 0, [])) (rfl) ((HSub.cons rfl (HSub.cons rfl (HSub.cons rfl (HSub.nil _))))) (fun _ => ⟨rfl, rfl⟩) (fun _ => ⟨rfl, rfl⟩) (fun _ _ _ => True) (fun x s i => [(5, box b5 #[s.1] 55), (3, box b3 #[.func (.func g) #[] #[]] 47), (60, row s.1 9 1 s.2.length ((s.2.map (itemS pfx)).map str))]) (fun x s i => [(5, .pointer (some ⟨b5, 0, none⟩)), (3, .pointer (some ⟨b3, 0, none⟩)), (6, ivN x)]) ?_ ?_ ?_ ?_
    · skip
      intro Z l pre x s hpre hrel
      skip
      refine GC.region rfl ?_
      refine GL.yl (Yl.assign rfl) rfl ?_
      refine GL.nil ?_
      refine GE.met (()) trivial ?_ ?_
      · exact Sub.cons rfl (Sub.cons rfl (Sub.cons rfl (Sub.nil _)))
      · exact HSub.refl _
    · skip
      intro Z l pre x s i hpre hrel hJ
      obtain ⟨v, l2⟩ := s
      replace hrel : l2 = pre := hrel
      subst hrel
      have hl2 := hpre.length_le
      rw [List.length_append, List.length_singleton] at hl2
      have hxm : x < 64 := nums_lt (hpre.subset (by simp))
      refine GC.block ?_
      refine GC.drawq T.mixed rfl 6 ([(5, box b5 #[v] 55), (3, box b3 #[.func (.func g) #[] #[]] 47)]) ([]) ?_
      refine GQ.take 0 rfl (by kernel_rfl) (by kernel_rfl) (by kernel_rfl) (by kernel_rfl) (by kernel_rfl) (by kernel_rfl) rfl (Yl.load 5 rfl T.sc55 rfl rfl) rfl (HSub.cons rfl (HSub.cons rfl (HSub.nil _))) ?_
      refine GQ.take 1 rfl (by kernel_rfl) (by kernel_rfl) (by kernel_rfl) (by kernel_rfl) (by kernel_rfl) (by kernel_rfl) rfl (Yl.load 3 rfl T.sc47 rfl rfl) rfl (HSub.cons rfl (HSub.cons rfl (HSub.nil _))) ?_
      refine GQ.take 2 rfl (by kernel_rfl) (by kernel_rfl) (by kernel_rfl) (by kernel_rfl) (by kernel_rfl) (by kernel_rfl) rfl (Yl.move rfl) rfl (HSub.cons rfl (HSub.cons rfl (HSub.nil _))) ?_
      refine GQ.one 3 (by kernel_rfl) rfl rfl ?_
      refine GO.callw _ (f := g) (cap := []) rfl hen rfl rfl (fun w hw => hg x (by omega) w) ?_
      refine GK.any1 (by kernel_rfl) (HSub.cons rfl (HSub.cons rfl (HSub.nil _))) ?_
      refine GQ.one 4 (by kernel_rfl) rfl rfl ?_
      refine GO.buildSlice 16 Tryd.underlying55 T.zr9 T.sz9 rfl rfl rfl (sliceCells_one rfl rfl) rfl ?_
      intro b16 hb16
      refine GK.any1 (by kernel_rfl) (HSub.cons rfl (HSub.cons rfl (HSub.nil _))) ?_
      refine GQ.one 5 (by kernel_rfl) rfl rfl ?_
      refine GO.appendBox 60 16 rfl rfl Tryd.underlying55 T.zr9 T.sz9 T.by9 rfl (by decide) rfl rfl rfl (by intro u hu; simp at hu; subst hu; rfl) (by show l2.length + 1 ≤ _; omega) (by show (l2.length + 1) * 16 ≤ _; omega) (by decide) rfl ?_
      intro g17 c17
      refine GK.any1 (by kernel_rfl) (HSub.cons rfl (HSub.cons rfl (HSub.nil _))) ?_
      refine GQ.one 6 (by kernel_rfl) rfl rfl ?_
      refine GO.store 5 rfl T.sz55 rfl rfl rfl (by first | (simp; done) | (simp; omega) | decide) rfl ?_
      refine GK.any2 (by kernel_rfl) (HSub.nil _) ?_
      refine GQ.done (by kernel_rfl) ?_
      refine GE.in_n ?_
      refine GE.round_n ((.slice (some ⟨g17, 0, none⟩) (l2.length + 1) c17, l2 ++ [x])) rfl (HSub.cons rfl (HSub.cons rfl (HSub.cons' rfl (by simp) (HSub.nil _))))
    · skip
      rintro ⟨v, l2⟩ hrel
      replace hrel : l2 = nums s := hrel
      subst hrel
      refine GE.in_n ?_
      refine GE.then_n ?_
      refine GC.seq ?_
      refine GC.region rfl ?_
      refine GL.yl (Yl.load 5 rfl T.sc55 rfl rfl) rfl ?_
      refine GL.op ?_
      refine GO.callv _ T.en68 (show evs _ _ = some [v, str [32]] from rfl) rfl (fun w hw => join_calls v ((nums s).map (itemS pfx)) [32] w (hw.rowSl (k := 60) rfl) (by rw [List.length_map]; omega) (by omega)) ?_
      refine GK.list ?_
      refine GL.yl (Yl.sadd (b := [123]) rfl rfl (by simp; omega)) rfl ?_
      refine GL.yl (Yl.sadd (c := [125]) rfl rfl (by simp; omega)) rfl ?_
      refine GL.yl (Yl.assign rfl) rfl ?_
      refine GL.nil ?_
      refine GE.then_n ?_
      refine GC.ret ?_
      refine GE.ret1 rfl rfl (fun w hw => ?_)
      exact ⟨rfl, hw.below⟩
    · skip
      intro c pre t hpre hout
      exact hout.elim
theorem ftext_calls (f : Nat → Bool) (pfx : List UInt8) (hp : pfx.length ≤ 1) (w : World) : RetB Tryd.prog 30 [.agg (flc f), str pfx] w (str (textS pfx (numsF f))) := by
  have hn64 : (numsF f).length ≤ 64 := numsK_len f 64
  have hk64 : ∀ k ∈ numsF f, k < 64 := fun k hk => List.mem_range.1 (List.mem_filter.1 hk).1
  have hlen := items_len hp hk64 hn64
  refine calls_in Tryd.func30 rfl rfl ?_
  refine GC.seq ?_
  refine GC.region rfl ?_
  refine GL.op ?_
  refine GO.box 2 rfl rfl ?_
  intro b2 hb2
  refine GK.list ?_
  refine GL.yl (Yl.assign rfl) rfl ?_
  refine GL.nil ?_
  refine GE.then_n ?_
  refine GC.seq ?_
  refine GC.region rfl ?_
  refine GL.yl (Yl.assign rfl) rfl ?_
  refine GL.nil ?_
  refine GE.then_n ?_
  refine GC.seq ?_
  refine GC.seq ?_
  refine GC.region rfl ?_
  refine GL.yl (Yl.loadAll 2 rfl T.ag26 (flc_size f) rfl) rfl ?_
  refine GL.op ?_
  refine GO.calln 50 (fun v : Value => v) (fun v => row v 3 1 (numsF f).length ((numsF f).map ivN)) (fun _ => True) T.en12 rfl rfl (fun w hw => fnumbers_calls f w) ?_
  intro v50 _
  refine GK.shape 50 rfl ?_
  intro p50 c50 hv50 hc50 hn50 hp50
  subst hv50
  refine GK.list ?_
  refine GL.yl (Yl.len 3 Tryd.underlying27 rfl) rfl ?_
  refine GL.yl (Yl.move rfl) rfl ?_
  refine GL.nil ?_
  refine GE.then_n ?_
  refine GC.block ?_
  refine GC.nilrow 60 9 1 ?_
  refine GC.loop (σ := Nat × Value) (fun s => s.1 ≤ (numsF f).length) (fun s => (numsF f).length - s.1) (fun s => [(50, row (.slice p50 (numsF f).length c50) 3 1 (numsF f).length ((numsF f).map ivN)), (60, row s.2 9 1 s.1 ((((numsF f).take s.1).map (itemS pfx)).map str))]) (fun s => [(9, .slice p50 (numsF f).length c50), (10, .int .i64 (numsF f).length), (11, .int .i64 s.1), (5, s.2), (1, str pfx)]) ((0, .slice none 0 0)) ?_ ?_ ?_ ?_
  · exact Nat.zero_le _
  · exact Sub.cons rfl (Sub.cons rfl (Sub.cons rfl (Sub.cons rfl (Sub.cons rfl (Sub.nil _)))))
  · exact HSub.cons rfl (HSub.cons rfl (HSub.nil _))
  · skip
    rintro ⟨s, v⟩ hs
    replace hs : s ≤ (numsF f).length := hs
    refine GC.seq ?_
    refine GC.region rfl ?_
    refine GL.yl (Yl.lss rfl rfl) rfl ?_
    refine GL.nil ?_
    refine GE.then_n ?_
    refine GC.seq ?_
    refine GC.cond_d rfl (fun hc => ?_) (fun hc => ?_)
    · skip
      replace hc : (s : Int) < ((numsF f).length : Int) := hc
      obtain ⟨g, rfl⟩ := hp50 (by omega)
      obtain ⟨k, hk⟩ := get_lt (numsF f) (k := s) (by omega)
      have hk1 := hk64 k (List.mem_of_getElem? hk)
      have hk2 := digits_len (show k < 100 by omega)
      refine GC.skip ?_
      refine GE.then_n ?_
      refine GC.seq ?_
      refine GC.block ?_
      refine GC.seq ?_
      refine GC.region rfl ?_
      refine GL.yl (Yl.indexSl Tryd.underlying27 T.sz3 rfl rfl (by omega) (by omega)) rfl ?_
      refine GL.yl (Yl.loadRow 50 (v := ivN k) rfl T.sc3 rfl (by simp [hk])) rfl ?_
      refine GL.yl (Yl.assign rfl) rfl ?_
      refine GL.nil ?_
      refine GE.then_n ?_
      refine GC.region rfl ?_
      refine GL.yl (Yl.move rfl) rfl ?_
      refine GL.yl (Yl.move rfl) rfl ?_
      refine GL.yl (Yl.move rfl) rfl ?_
      refine GL.op ?_
      refine GO.callv _ T.en27 rfl rfl (fun w hw => itoa_calls k (by omega) w) ?_
      refine GK.list ?_
      refine GL.yl (Yl.sadd rfl rfl (by omega)) rfl ?_
      refine GL.op ?_
      refine GO.buildSlice 20 Tryd.underlying55 T.zr9 T.sz9 rfl rfl rfl (sliceCells_one rfl rfl) rfl ?_
      intro b20 hb20
      refine GK.list ?_
      refine GL.op ?_
      refine GO.appendBox 60 20 rfl rfl Tryd.underlying55 T.zr9 T.sz9 T.by9 rfl (by decide) rfl rfl rfl (by intro u hu; simp at hu; subst hu; rfl) (by show s + 1 ≤ _; omega) (by show (s + 1) * 16 ≤ _; omega) (by decide) rfl ?_
      intro g21 c21
      refine GK.list ?_
      refine GL.yl (Yl.assign rfl) rfl ?_
      refine GL.nil ?_
      refine GE.in_n ?_
      refine GE.then_n ?_
      refine GC.region rfl ?_
      refine GL.yl (Yl.add rfl rfl (by omega) (by omega)) rfl ?_
      refine GL.yl (Yl.move rfl) rfl ?_
      refine GL.nil ?_
      refine GE.again ((s + 1, .slice (some ⟨g21, 0, none⟩) (s + 1) c21)) (by show s + 1 ≤ (numsF f).length; omega) (by show (numsF f).length - (s + 1) < (numsF f).length - s; omega) ?_ ?_
      · exact Sub.cons rfl (Sub.cons rfl (Sub.cons rfl (Sub.cons rfl (Sub.cons rfl (Sub.nil _)))))
      · exact HSub.cons rfl (HSub.cons' rfl (by show row _ 9 1 (s + 1) _ = row _ 9 1 (s + 1) _; congr 1; show _ = ((((numsF f).take (s + 1)).map (itemS pfx)).map str); rw [take_snoc hk]; simp [itemS]) (HSub.nil _))
    · skip
      replace hc : ¬ (s : Int) < ((numsF f).length : Int) := hc
      have e : s = (numsF f).length := by omega
      subst e
      refine GC.exit ?_
      refine GE.then_exit ?_
      refine GE.then_exit ?_
      refine GE.in_hit ?_
      refine GE.then_n ?_
      refine GC.seq ?_
      refine GC.region rfl ?_
      refine GL.yl (Yl.move rfl) rfl ?_
      refine GL.op ?_
      refine GO.callv _ T.en68 (show evs _ _ = some [v, str [32]] from rfl) rfl (fun w hw => join_calls v ((numsF f).map (itemS pfx)) [32] w (by have := hw.rowSl (k := 60) rfl; rwa [List.take_length] at this) (by rw [List.length_map]; omega) (by omega)) ?_
      refine GK.list ?_
      refine GL.yl (Yl.sadd (b := [123]) rfl rfl (by simp; omega)) rfl ?_
      refine GL.yl (Yl.sadd (c := [125]) rfl rfl (by simp; omega)) rfl ?_
      refine GL.yl (Yl.assign rfl) rfl ?_
      refine GL.nil ?_
      refine GE.then_n ?_
      refine GC.ret ?_
      refine GE.ret1 rfl rfl (fun w hw => ?_)
      exact ⟨rfl, hw.below⟩
end Go.Proofs.YtligejpfbcdpmaaDoor
