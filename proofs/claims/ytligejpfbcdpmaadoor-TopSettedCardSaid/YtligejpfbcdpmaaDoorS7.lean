/- The walk of TopSetted: it returns true, whatever the bytes.
   No condition. -/
import Derived.Test.YtligejpfbcdpmaaDoorS6
import Derived.Test.YtligejpfbcdpmaaDoorM5
namespace Go.Proofs.YtligejpfbcdpmaaDoor
open Go.Proofs.YtligejpfbcdpmaaDoor.Dv Go.RowKit
set_option linter.unusedVariables false
set_option linter.unusedSimpArgs false
theorem numsF_len (f : Nat → Bool) : (numsF f).length ≤ 64 := numsK_len f 64
theorem ord_zero (f g : Nat → Bool) : ordF f g 0 = 0 := rfl
theorem wi_zero (f g : Nat → Bool) : wi f g 0 = true := rfl
attribute [local irreducible] Tryd.prog setF flc numsF nums ofS textS wi ordF

def u8v (b : UInt8) : Value := .int .u8 b.toNat
set_option maxHeartbeats 4000000 in
theorem topSetted_calls (G L : List UInt8) (gv lv cv : Value) (w : World) (hG : IsSl w gv (G.map u8v)) (hL : IsSl w lv (L.map u8v)) (hGl : G.length ≤ 9223372036854775807) (hLl : L.length ≤ 9223372036854775807) (hT : Tab64 w) : RetB Tryd.prog 3 [.agg #[gv, lv, cv]] w (.bool true) := by
  obtain ⟨pG, cG, rfl, hcG, hxG⟩ := hG
  obtain ⟨pL, cL, rfl, hcL, hxL⟩ := hL
  simp only [List.length_map] at hcG hcL ⊢
  obtain ⟨K, hK⟩ : ∃ K : List Int, K = (G.take 20).map (fun b => (b.toNat : Int) % 68 - 2) := ⟨_, rfl⟩
  have hKl : K.length = min 20 G.length := by rw [hK]; simp
  obtain ⟨M, hM⟩ : ∃ M : List Nat, M = (L.take 40).map (fun b => b.toNat % 64) := ⟨_, rfl⟩
  have hMl : M.length = min 40 L.length := by rw [hM]; simp
  obtain ⟨f, hf⟩ : ∃ f : Nat → Bool, f = fun i : Nat => decide ((i : Int) ∈ K) := ⟨_, rfl⟩
  obtain ⟨g, hg⟩ : ∃ g : Nat → Bool, g = fun i : Nat => decide (i ∈ M) := ⟨_, rfl⟩
  have hofK : ofS K = setF f := by rw [hf]; exact of_flags K
  have hnf : (numsF f).length ≤ 64 := numsF_len f
  have hng : (numsF g).length ≤ 64 := numsF_len g
  refine calls_in Tryd.func3 rfl rfl ?_
  refine GC.seq ?_
  refine GC.region rfl ?_
  refine GL.op ?_
  refine GO.box 1 rfl rfl ?_
  intro b1 hb1
  refine GK.list ?_
  refine GL.yl (Yl.assign rfl) rfl ?_
  refine GL.nil ?_
  refine GE.then_n ?_
  refine GC.seq ?_
  refine GC.region rfl ?_
  refine GL.op ?_
  refine GO.alloc 3 T.zr26 rfl ?_
  intro b3 hb3
  refine GK.list ?_
  refine GL.op ?_
  refine GO.alloc 4 T.zr26 rfl ?_
  intro b4 hb4
  refine GK.list ?_
  refine GL.nil ?_
  refine GE.then_n ?_
  refine GC.seq ?_
  refine GC.region rfl ?_
  refine GL.yl (Yl.assign rfl) rfl ?_
  refine GL.nil ?_
  refine GE.then_n ?_
  refine GC.seq ?_
  refine GC.seq ?_
  refine GC.region rfl ?_
  refine GL.yl (Yl.fieldAddr T.fd24_0 rfl) rfl ?_
  refine GL.yl (Yl.load 1 rfl T.sc22 rfl rfl) rfl ?_
  refine GL.yl (Yl.fieldAddr T.fd24_0 rfl) rfl ?_
  refine GL.yl (Yl.load 1 rfl T.sc22 rfl rfl) rfl ?_
  refine GL.yl (Yl.len 5 Tryd.underlying22 rfl) rfl ?_
  refine GL.yl (Yl.imin rfl rfl) rfl ?_
  refine GL.yl (Yl.sliceTo Tryd.underlying22 T.sz5 rfl rfl (by omega) (by omega)) rfl ?_
  refine GL.re 39 rfl (congrArg (fun k => Value.slice pG k cG) (show (min (G.length : Int) 20).toNat = K.length by omega)) ?_
  refine GL.yl (Yl.len 5 Tryd.underlying22 rfl) rfl ?_
  refine GL.yl (Yl.move rfl) rfl ?_
  refine GL.nil ?_
  refine GE.then_n ?_
  refine GC.join (σ := Value) (fun s => True) (fun s => [(3, box b3 (flc f) 26), (4, box b4 (flc (fun _ => false)) 26), (1, box b1 #[.slice pG G.length cG, .slice pL L.length cL, cv] 24), (50, row s 3 1 K.length ((K).map iv))]) (fun s => [(1, .pointer (some ⟨b1, 0, none⟩)), (3, .pointer (some ⟨b3, 0, none⟩)), (4, .pointer (some ⟨b4, 0, none⟩)), (5, s)]) ?_ ?_
  · skip
    refine GC.block ?_
    refine GC.nilrow 50 3 1 ?_
    refine GC.loop (σ := Nat × Value) (fun s => s.1 ≤ K.length) (fun s => K.length - s.1) (fun s => [(3, box b3 (flc (fun i => decide ((i : Int) ∈ K.take s.1))) 26), (4, box b4 (flc (fun _ => false)) 26), (1, box b1 #[.slice pG G.length cG, .slice pL L.length cL, cv] 24), (50, row s.2 3 1 s.1 ((K.take s.1).map iv))]) (fun s => [(1, .pointer (some ⟨b1, 0, none⟩)), (3, .pointer (some ⟨b3, 0, none⟩)), (4, .pointer (some ⟨b4, 0, none⟩)), (5, s.2), (39, .slice pG K.length cG), (40, .int .i64 K.length), (41, .int .i64 s.1)]) ((0, .slice none 0 0)) ?_ ?_ ?_ ?_
    · exact Nat.zero_le _
    · exact Sub.cons rfl (Sub.cons rfl (Sub.cons rfl (Sub.cons rfl (Sub.cons rfl (Sub.cons rfl (Sub.cons rfl (Sub.nil _)))))))
    · exact (HSub.cons' rfl ((congrArg (fun cs => box b3 cs 26) (flc_none))) (HSub.cons' rfl ((congrArg (fun cs => box b4 cs 26) (flc_zero))) (HSub.cons rfl (HSub.cons rfl (HSub.nil _)))))
    · skip
      rintro ⟨s, v⟩ hs
      replace hs : s ≤ K.length := hs
      refine GC.seq ?_
      refine GC.region rfl ?_
      refine GL.yl (Yl.lss rfl rfl) rfl ?_
      refine GL.nil ?_
      refine GE.then_n ?_
      refine GC.seq ?_
      refine GC.cond_d rfl (fun hc => ?_) (fun hc => ?_)
      · skip
        replace hc : (s : Int) < (K.length : Int) := hc
        obtain ⟨x, hx⟩ := get_lt G (k := s) (by omega)
        obtain ⟨b, o, rfl, hb⟩ := hxG s (u8v x) (by simp [hx])
        have hx8 : x.toNat < 256 := x.toNat_lt
        obtain ⟨k, hkd⟩ : ∃ k : Int, k = (x.toNat : Int) % 68 - 2 := ⟨_, rfl⟩
        have hKs : K[s]? = some k := by
          rw [hK, List.getElem?_map, List.getElem?_take, if_pos (by omega), hx, hkd]; rfl
        refine GC.skip ?_
        refine GE.then_n ?_
        refine GC.seq ?_
        refine GC.block ?_
        refine GC.seq ?_
        refine GC.region rfl ?_
        refine GL.yl (Yl.indexSl Tryd.underlying22 T.sz5 rfl rfl (by omega) (by omega)) rfl ?_
        refine GL.yl (Yl.loadCell (v := u8v x) T.sc5 rfl (fun w hw => by simpa using hw.cell0 rfl hb)) rfl ?_
        refine GL.yl (Yl.assign rfl) rfl ?_
        refine GL.nil ?_
        refine GE.then_n ?_
        refine GC.seq ?_
        refine GC.region rfl ?_
        refine GL.yl (Yl.move rfl) rfl ?_
        refine GL.yl (Yl.cvt Tryd.underlying5 Tryd.underlying3 rfl (i64_wrap (by omega) (by omega))) rfl ?_
        refine GL.yl (Yl.rem rfl rfl (by omega) (by omega)) rfl ?_
        refine GL.yl (Yl.sub rfl rfl (by omega) (by omega)) rfl ?_
        refine GL.re 48 rfl (congrArg (Value.int .i64) hkd.symm) ?_
        refine GL.yl (Yl.assign rfl) rfl ?_
        refine GL.nil ?_
        refine GE.then_n ?_
        refine GC.seq ?_
        refine GC.region rfl ?_
        refine GL.yl (Yl.move rfl) rfl ?_
        refine GL.yl (Yl.move rfl) rfl ?_
        refine GL.op ?_
        refine GO.buildSlice 51 Tryd.underlying27 T.zr3 T.sz3 rfl rfl rfl (sliceCells_one rfl rfl) rfl ?_
        intro b51 hb51
        refine GK.list ?_
        refine GL.op ?_
        refine GO.appendBox 50 51 rfl rfl Tryd.underlying27 T.zr3 T.sz3 T.by3 rfl (by decide) rfl rfl rfl (by intro u hu; simp at hu; subst hu; rfl) (by show s + 1 ≤ _; omega) (by show (s + 1) * 8 ≤ _; omega) (by decide) rfl ?_
        intro g52 c52
        refine GK.list ?_
        refine GL.yl (Yl.assign rfl) rfl ?_
        refine GL.nil ?_
        refine GE.then_n ?_
        refine GC.seq ?_
        refine GC.region rfl ?_
        refine GL.yl (Yl.move rfl) rfl ?_
        refine GL.yl (Yl.geq rfl rfl) rfl ?_
        refine GL.yl (Yl.move rfl) rfl ?_
        refine GL.bothd 55 rfl (fun hk0 => ?_) (fun hk0 => ?_)
        · skip
          refine GL.want rfl ?_
          refine GL.yl (Yl.move rfl) rfl ?_
          refine GL.want rfl ?_
          refine GL.yl (Yl.lss rfl rfl) rfl ?_
          refine GL.yl (Yl.pick_t rfl rfl) rfl ?_
          refine GL.nil ?_
          refine GE.then_n ?_
          refine GC.cond_d rfl (fun hk1 => ?_) (fun hk1 => ?_)
          · skip
            refine GC.region rfl ?_
            refine GL.yl (Yl.move rfl) rfl ?_
            refine GL.yl (Yl.indexArr Tryd.underlying26 T.sz4 rfl rfl (by omega) (by omega)) rfl ?_
            refine GL.op ?_
            refine GO.store 3 rfl T.sz4 rfl rfl rfl (by rw [flc_size]; omega) rfl ?_
            refine GK.list ?_
            refine GL.nil ?_
            refine GE.in_n ?_
            refine GE.then_n ?_
            refine GC.region rfl ?_
            refine GL.yl (Yl.add rfl rfl (by omega) (by omega)) rfl ?_
            refine GL.yl (Yl.move rfl) rfl ?_
            refine GL.nil ?_
            refine GE.again ((s + 1, .slice (some ⟨g52, 0, none⟩) (s + 1) c52)) (by show s + 1 ≤ K.length; omega) (by show K.length - (s + 1) < K.length - s; omega) ?_ ?_
            · exact Sub.cons rfl (Sub.cons rfl (Sub.cons rfl (Sub.cons rfl (Sub.cons rfl (Sub.cons rfl (Sub.cons rfl (Sub.nil _)))))))
            · exact (HSub.cons' rfl ((congrArg (fun cs => box b3 cs 26) (flc_in hk0 hk1 hKs))) (HSub.cons rfl (HSub.cons rfl (HSub.cons' rfl (by show row _ 3 1 (s + 1) _ = row _ 3 1 (s + 1) ((K.take (s + 1)).map iv); rw [take_snoc hKs, List.map_append]; rfl) (HSub.nil _)))))
          · skip
            refine GC.skip ?_
            refine GE.in_n ?_
            refine GE.then_n ?_
            refine GC.region rfl ?_
            refine GL.yl (Yl.add rfl rfl (by omega) (by omega)) rfl ?_
            refine GL.yl (Yl.move rfl) rfl ?_
            refine GL.nil ?_
            refine GE.again ((s + 1, .slice (some ⟨g52, 0, none⟩) (s + 1) c52)) (by show s + 1 ≤ K.length; omega) (by show K.length - (s + 1) < K.length - s; omega) ?_ ?_
            · exact Sub.cons rfl (Sub.cons rfl (Sub.cons rfl (Sub.cons rfl (Sub.cons rfl (Sub.cons rfl (Sub.cons rfl (Sub.nil _)))))))
            · exact (HSub.cons' rfl ((congrArg (fun cs => box b3 cs 26) (flc_out (fun h => hk1 h.2) hKs))) (HSub.cons rfl (HSub.cons rfl (HSub.cons' rfl (by show row _ 3 1 (s + 1) _ = row _ 3 1 (s + 1) ((K.take (s + 1)).map iv); rw [take_snoc hKs, List.map_append]; rfl) (HSub.nil _)))))
        · skip
          refine GL.skip rfl rfl ?_
          refine GL.skip rfl rfl ?_
          refine GL.yl (Yl.pick_f rfl rfl) rfl ?_
          refine GL.nil ?_
          refine GE.then_n ?_
          refine GC.cond_ff rfl ?_
          refine GC.skip ?_
          refine GE.in_n ?_
          refine GE.then_n ?_
          refine GC.region rfl ?_
          refine GL.yl (Yl.add rfl rfl (by omega) (by omega)) rfl ?_
          refine GL.yl (Yl.move rfl) rfl ?_
          refine GL.nil ?_
          refine GE.again ((s + 1, .slice (some ⟨g52, 0, none⟩) (s + 1) c52)) (by show s + 1 ≤ K.length; omega) (by show K.length - (s + 1) < K.length - s; omega) ?_ ?_
          · exact Sub.cons rfl (Sub.cons rfl (Sub.cons rfl (Sub.cons rfl (Sub.cons rfl (Sub.cons rfl (Sub.cons rfl (Sub.nil _)))))))
          · exact (HSub.cons' rfl ((congrArg (fun cs => box b3 cs 26) (flc_out (fun h => hk0 h.1) hKs))) (HSub.cons rfl (HSub.cons rfl (HSub.cons' rfl (by show row _ 3 1 (s + 1) _ = row _ 3 1 (s + 1) ((K.take (s + 1)).map iv); rw [take_snoc hKs, List.map_append]; rfl) (HSub.nil _)))))
      · skip
        replace hc : ¬ (s : Int) < (K.length : Int) := hc
        have e : s = K.length := by omega
        subst e
        refine GC.exit ?_
        refine GE.then_exit ?_
        refine GE.then_exit ?_
        refine GE.in_hit ?_
        refine GE.met (v) trivial ?_ ?_
        · exact (Sub.cons rfl (Sub.cons rfl (Sub.cons rfl (Sub.cons rfl (Sub.nil _)))))
        · exact (HSub.cons' rfl ((congrArg (fun cs => box b3 cs 26) (by rw [hf, List.take_length]))) (HSub.cons rfl (HSub.cons rfl (HSub.cons' rfl (by rw [List.take_length]) (HSub.nil _)))))
  · skip
    intro v50 hs
    refine GE.then_n ?_
    refine GC.seq ?_
    refine GC.seq ?_
    refine GC.region rfl ?_
    refine GL.yl (Yl.fieldAddr T.fd24_1 rfl) rfl ?_
    refine GL.yl (Yl.load 1 rfl T.sc22 rfl rfl) rfl ?_
    refine GL.yl (Yl.fieldAddr T.fd24_1 rfl) rfl ?_
    refine GL.yl (Yl.load 1 rfl T.sc22 rfl rfl) rfl ?_
    refine GL.yl (Yl.len 5 Tryd.underlying22 rfl) rfl ?_
    refine GL.yl (Yl.imin rfl rfl) rfl ?_
    refine GL.yl (Yl.sliceTo Tryd.underlying22 T.sz5 rfl rfl (by omega) (by omega)) rfl ?_
    refine GL.re 68 rfl (congrArg (fun k => Value.slice pL k cL) (show (min (L.length : Int) 40).toNat = M.length by omega)) ?_
    refine GL.yl (Yl.len 5 Tryd.underlying22 rfl) rfl ?_
    refine GL.yl (Yl.move rfl) rfl ?_
    refine GL.nil ?_
    refine GE.then_n ?_
    refine GC.join (σ := Unit) (fun s => True) (fun s => [(3, box b3 (flc f) 26), (4, box b4 (flc g) 26), (50, row v50 3 1 K.length ((K).map iv))]) (fun s => [(3, .pointer (some ⟨b3, 0, none⟩)), (4, .pointer (some ⟨b4, 0, none⟩)), (5, v50)]) ?_ ?_
    · skip
      refine GC.block ?_
      refine GC.loop (σ := Nat) (fun s => s ≤ M.length) (fun s => M.length - s) (fun s => [(3, box b3 (flc f) 26), (4, box b4 (flc (fun i => decide (i ∈ M.take s))) 26), (50, row v50 3 1 K.length ((K).map iv))]) (fun s => [(3, .pointer (some ⟨b3, 0, none⟩)), (4, .pointer (some ⟨b4, 0, none⟩)), (5, v50), (68, .slice pL M.length cL), (69, .int .i64 M.length), (70, .int .i64 s)]) (0) ?_ ?_ ?_ ?_
      · exact Nat.zero_le _
      · exact Sub.cons rfl (Sub.cons rfl (Sub.cons rfl (Sub.cons rfl (Sub.cons rfl (Sub.cons rfl (Sub.nil _))))))
      · exact (HSub.cons rfl (HSub.cons' rfl ((congrArg (fun cs => box b4 cs 26) (flc_zero.symm.trans flc_noneN))) (HSub.cons rfl (HSub.nil _))))
      · skip
        intro s hs
        refine GC.seq ?_
        refine GC.region rfl ?_
        refine GL.yl (Yl.lss rfl rfl) rfl ?_
        refine GL.nil ?_
        refine GE.then_n ?_
        refine GC.seq ?_
        refine GC.cond_d rfl (fun hc => ?_) (fun hc => ?_)
        · skip
          obtain ⟨x, hx⟩ := get_lt L (k := s) (by omega)
          obtain ⟨b, o, rfl, hb⟩ := hxL s (u8v x) (by simp [hx])
          have hx8 : x.toNat < 256 := x.toNat_lt
          have hMs : M[s]? = some (x.toNat % 64) := by
            rw [hM, List.getElem?_map, List.getElem?_take, if_pos (by omega), hx]; rfl
          refine GC.skip ?_
          refine GE.then_n ?_
          refine GC.seq ?_
          refine GC.block ?_
          refine GC.seq ?_
          refine GC.region rfl ?_
          refine GL.yl (Yl.indexSl Tryd.underlying22 T.sz5 rfl rfl (by omega) (by omega)) rfl ?_
          refine GL.yl (Yl.loadCell (v := u8v x) T.sc5 rfl (fun w hw => by simpa using hw.cell0 rfl hb)) rfl ?_
          refine GL.yl (Yl.assign rfl) rfl ?_
          refine GL.nil ?_
          refine GE.then_n ?_
          refine GC.region rfl ?_
          refine GL.yl (Yl.move rfl) rfl ?_
          refine GL.yl (Yl.rem rfl rfl (by omega) (by omega)) rfl ?_
          refine GL.yl (Yl.indexArr Tryd.underlying26 T.sz4 rfl rfl (by omega) (by omega)) rfl ?_
          refine GL.op ?_
          refine GO.store 4 rfl T.sz4 rfl rfl rfl (by rw [flc_size]; omega) rfl ?_
          refine GK.list ?_
          refine GL.nil ?_
          refine GE.in_n ?_
          refine GE.then_n ?_
          refine GC.region rfl ?_
          refine GL.yl (Yl.add rfl rfl (by omega) (by omega)) rfl ?_
          refine GL.yl (Yl.move rfl) rfl ?_
          refine GL.nil ?_
          refine GE.again (s + 1) (by omega) (by omega) ?_ ?_
          · exact Sub.cons rfl (Sub.cons rfl (Sub.cons rfl (Sub.cons rfl (Sub.cons rfl (Sub.cons rfl (Sub.nil _))))))
          · exact (HSub.cons rfl (HSub.cons' rfl ((congrArg (fun cs => box b4 cs 26) (flc_mem hMs))) (HSub.cons rfl (HSub.nil _))))
        · skip
          have e : s = M.length := by omega
          subst e
          refine GC.exit ?_
          refine GE.then_exit ?_
          refine GE.then_exit ?_
          refine GE.in_hit ?_
          refine GE.met (()) trivial ?_ ?_
          · exact (Sub.cons rfl (Sub.cons rfl (Sub.cons rfl (Sub.nil _))))
          · exact (HSub.cons rfl (HSub.cons' rfl ((congrArg (fun cs => box b4 cs 26) (by rw [hg, List.take_length]))) (HSub.cons rfl (HSub.nil _))))
    · skip
      intro _ _
      refine GE.then_n ?_
      refine GC.seq ?_
      refine GC.draw T.mixed rfl ([(50, row v50 3 1 K.length ((K).map iv)), (4, box b4 (flc g) 26)]) ?_
      refine GA.take 0 rfl (by kernel_rfl) (by kernel_rfl) (by kernel_rfl) rfl (Yl.move rfl) rfl (HSub.cons rfl (HSub.cons rfl (HSub.nil _))) ?_
      refine GA.take 2 rfl (by kernel_rfl) (by kernel_rfl) (by kernel_rfl) rfl (Yl.loadAll 4 rfl T.ag26 (flc_size g) rfl) rfl (HSub.cons rfl (HSub.cons rfl (HSub.nil _))) ?_
      refine GQ.one 1 (by kernel_rfl) rfl rfl ?_
      refine GO.callv _ T.en10 rfl rfl (fun w hw => of_calls v50 K w (by omega) (hw.rowSl (k := 50) rfl)) ?_
      refine GK.any (HSub.cons rfl (HSub.cons rfl (HSub.nil _))) ?_
      refine GQ.one 3 (by kernel_rfl) rfl rfl ?_
      refine GO.callv _ T.en11 rfl rfl (fun w hw => set_calls g w) ?_
      refine GK.any (HSub.cons rfl (HSub.cons rfl (HSub.nil _))) ?_
      refine GA.take 4 rfl (by kernel_rfl) (by kernel_rfl) (by kernel_rfl) rfl (Yl.assign rfl) rfl (HSub.cons rfl (HSub.cons rfl (HSub.nil _))) ?_
      refine GQ.re 11 rfl (congrArg u64 hofK) ?_
      refine GA.take 5 rfl (by kernel_rfl) (by kernel_rfl) (by kernel_rfl) rfl (Yl.assign rfl) rfl (HSub.cons rfl (HSub.cons rfl (HSub.nil _))) ?_
      refine GQ.done (by kernel_rfl) ?_
      refine GE.then_n ?_
      refine GC.seq ?_
      refine GC.seq ?_
      refine GC.region rfl ?_
      refine GL.yl (Yl.move rfl) rfl ?_
      refine GL.yl (Yl.loadAll 3 rfl T.ag26 (flc_size f) rfl) rfl ?_
      refine GL.op ?_
      refine GO.callv _ T.en11 rfl rfl (fun w hw => set_calls f w) ?_
      refine GK.list ?_
      refine GL.yl (Yl.uneq rfl rfl) rfl ?_
      refine GL.yl (Yl.move rfl) rfl ?_
      refine GL.re (v' := .bool false) 86 rfl (congrArg Value.bool (decide_eq_false (not_not_intro rfl))) ?_
      refine GL.want rfl ?_
      refine GL.yl (Yl.loadAll 4 rfl T.ag26 (flc_size g) rfl) rfl ?_
      refine GL.want rfl ?_
      refine GL.op ?_
      refine GO.calln 51 (fun v : Value => v) (fun v => row v 3 1 (numsF g).length ((numsF g).map ivN)) (fun _ => True) T.en12 rfl rfl (fun w hw => fnumbers_calls g w) ?_
      intro v51 _
      refine GK.list ?_
      refine GL.want rfl ?_
      refine GL.op ?_
      refine GO.callv _ T.en10 rfl rfl (fun w hw => of_calls v51 (natI (numsF g)) w (by unfold natI; rw [List.length_map]; omega) (by have := hw.rowSl (k := 51) rfl; rw [natI_map]; exact this)) ?_
      refine GK.list ?_
      refine GL.want rfl ?_
      refine GL.yl (Yl.move rfl) rfl ?_
      refine GL.want rfl ?_
      refine GL.yl (Yl.uneq rfl rfl) rfl ?_
      refine GL.yl (Yl.pick_f rfl rfl) rfl ?_
      refine GL.nil ?_
      refine GE.then_n ?_
      refine GC.re (v' := .bool false) 92 rfl (congrArg Value.bool (decide_eq_false (not_not_intro (of_numbers g)))) ?_
      refine GC.cond_ff rfl ?_
      refine GC.skip ?_
      refine GE.then_n ?_
      refine GC.seq ?_
      refine GC.region rfl ?_
      refine GL.op ?_
      refine GO.alloc 13 T.zr26 rfl ?_
      intro b13 hb13
      refine GK.list ?_
      refine GL.op ?_
      refine GO.alloc 14 T.zr26 rfl ?_
      intro b14 hb14
      refine GK.list ?_
      refine GL.op ?_
      refine GO.alloc 15 T.zr26 rfl ?_
      intro b15 hb15
      refine GK.list ?_
      refine GL.nil ?_
      refine GE.then_n ?_
      refine GC.seq ?_
      refine GC.region rfl ?_
      refine GL.yl (Yl.assign rfl) rfl ?_
      refine GL.nil ?_
      refine GE.then_n ?_
      refine GC.seq ?_
      refine GC.seq ?_
      refine GC.region rfl ?_
      refine GL.yl (Yl.move rfl) rfl ?_
      refine GL.nil ?_
      refine GE.then_n ?_
      refine GC.join (σ := Unit) (fun s => True) (fun s => [(3, box b3 (flc f) 26), (4, box b4 (flc g) 26), (13, box b13 (flc (fun i => f i || g i)) 26), (14, box b14 (flc (fun i => f i && g i)) 26), (15, box b15 (flc (fun i => f i && !g i)) 26)]) (fun s => [(3, .pointer (some ⟨b3, 0, none⟩)), (4, .pointer (some ⟨b4, 0, none⟩)), (13, .pointer (some ⟨b13, 0, none⟩)), (14, .pointer (some ⟨b14, 0, none⟩)), (15, .pointer (some ⟨b15, 0, none⟩)), (11, u64 (setF f)), (12, u64 (setF g)), (16, .bool (wi f g 64))]) ?_ ?_
      · skip
        refine GC.block ?_
        refine GC.loop (σ := Nat) (fun s => s ≤ 64) (fun s => 64 - s) (fun s => [(3, box b3 (flc f) 26), (4, box b4 (flc g) 26), (13, box b13 (flc (fun i => decide (i < s) && (f i || g i))) 26), (14, box b14 (flc (fun i => decide (i < s) && (f i && g i))) 26), (15, box b15 (flc (fun i => decide (i < s) && (f i && !g i))) 26)]) (fun s => [(3, .pointer (some ⟨b3, 0, none⟩)), (4, .pointer (some ⟨b4, 0, none⟩)), (13, .pointer (some ⟨b13, 0, none⟩)), (14, .pointer (some ⟨b14, 0, none⟩)), (15, .pointer (some ⟨b15, 0, none⟩)), (11, u64 (setF f)), (12, u64 (setF g)), (16, .bool (wi f g s)), (93, .int .i64 s)]) (0) ?_ ?_ ?_ ?_
        · exact Nat.zero_le _
        · exact (Sub.cons rfl (Sub.cons rfl (Sub.cons rfl (Sub.cons rfl (Sub.cons rfl (Sub.cons rfl (Sub.cons rfl (Sub.cons' rfl (congrArg Value.bool (wi_zero f g).symm) (Sub.cons rfl (Sub.nil _))))))))))
        · exact (HSub.cons rfl (HSub.cons rfl (HSub.cons' rfl ((congrArg (fun cs => box b13 cs 26) (flc_start _))) (HSub.cons' rfl ((congrArg (fun cs => box b14 cs 26) (flc_start _))) (HSub.cons' rfl ((congrArg (fun cs => box b15 cs 26) (flc_start _))) (HSub.nil _))))))
        · skip
          intro s hs
          refine GC.seq ?_
          refine GC.region rfl ?_
          refine GL.yl (Yl.lss rfl rfl) rfl ?_
          refine GL.nil ?_
          refine GE.then_n ?_
          refine GC.seq ?_
          refine GC.cond_d rfl (fun hc => ?_) (fun hc => ?_)
          · skip
            replace hc : (s : Int) < 64 := hc
            refine GC.skip ?_
            refine GE.then_n ?_
            refine GC.seq ?_
            refine GC.block ?_
            refine GC.seq ?_
            refine GC.region rfl ?_
            refine GL.yl (Yl.move rfl) rfl ?_
            refine GL.yl (Yl.assign rfl) rfl ?_
            refine GL.nil ?_
            refine GE.then_n ?_
            refine GC.seq ?_
            refine GC.draw T.mixed rfl ([(3, box b3 (flc f) 26), (4, box b4 (flc g) 26)]) ?_
            refine GA.take 0 rfl (by kernel_rfl) (by kernel_rfl) (by kernel_rfl) rfl (Yl.move rfl) rfl (HSub.cons rfl (HSub.cons rfl (HSub.nil _))) ?_
            refine GA.take 1 rfl (by kernel_rfl) (by kernel_rfl) (by kernel_rfl) rfl (Yl.move rfl) rfl (HSub.cons rfl (HSub.cons rfl (HSub.nil _))) ?_
            refine GA.take 2 rfl (by kernel_rfl) (by kernel_rfl) (by kernel_rfl) rfl (Yl.move rfl) rfl (HSub.cons rfl (HSub.cons rfl (HSub.nil _))) ?_
            refine GA.take 3 rfl (by kernel_rfl) (by kernel_rfl) (by kernel_rfl) rfl (Yl.move rfl) rfl (HSub.cons rfl (HSub.cons rfl (HSub.nil _))) ?_
            refine GA.take 4 rfl (by kernel_rfl) (by kernel_rfl) (by kernel_rfl) rfl (Yl.indexArr Tryd.underlying26 T.sz4 rfl rfl (by omega) (by omega)) rfl (HSub.cons rfl (HSub.cons rfl (HSub.nil _))) ?_
            refine GA.take 5 rfl (by kernel_rfl) (by kernel_rfl) (by kernel_rfl) rfl (Yl.load 3 rfl T.sc4 rfl (flc_at f (by omega) (by omega))) rfl (HSub.cons rfl (HSub.cons rfl (HSub.nil _))) ?_
            refine GA.take 6 rfl (by kernel_rfl) (by kernel_rfl) (by kernel_rfl) rfl (Yl.move rfl) rfl (HSub.cons rfl (HSub.cons rfl (HSub.nil _))) ?_
            refine GQ.both 102 rfl (fun hfs => ?_) (fun hfs => ?_)
            · skip
              replace hfs : f s = true := hfs
              refine GA.pass 7 rfl (by kernel_rfl) (by kernel_rfl) (by kernel_rfl) rfl rfl (HSub.cons rfl (HSub.cons rfl (HSub.nil _))) ?_
              refine GA.pass 8 rfl (by kernel_rfl) (by kernel_rfl) (by kernel_rfl) rfl rfl (HSub.cons rfl (HSub.cons rfl (HSub.nil _))) ?_
              refine GA.pass 9 rfl (by kernel_rfl) (by kernel_rfl) (by kernel_rfl) rfl rfl (HSub.cons rfl (HSub.cons rfl (HSub.nil _))) ?_
              refine GA.take 10 rfl (by kernel_rfl) (by kernel_rfl) (by kernel_rfl) rfl (Yl.pick_t rfl rfl) rfl (HSub.cons rfl (HSub.cons rfl (HSub.nil _))) ?_
              refine GA.take 11 rfl (by kernel_rfl) (by kernel_rfl) (by kernel_rfl) rfl (Yl.move rfl) rfl (HSub.cons rfl (HSub.cons rfl (HSub.nil _))) ?_
              refine GA.take 12 rfl (by kernel_rfl) (by kernel_rfl) (by kernel_rfl) rfl (Yl.indexArr Tryd.underlying26 T.sz4 rfl rfl (by omega) (by omega)) rfl (HSub.cons rfl (HSub.cons rfl (HSub.nil _))) ?_
              refine GA.take 13 rfl (by kernel_rfl) (by kernel_rfl) (by kernel_rfl) rfl (Yl.load 3 rfl T.sc4 rfl (flc_at f (by omega) (by omega))) rfl (HSub.cons rfl (HSub.cons rfl (HSub.nil _))) ?_
              refine GA.take 14 rfl (by kernel_rfl) (by kernel_rfl) (by kernel_rfl) rfl (Yl.move rfl) rfl (HSub.cons rfl (HSub.cons rfl (HSub.nil _))) ?_
              refine GQ.re (v' := .bool true) 110 rfl (congrArg Value.bool hfs) ?_
              refine GA.take 15 rfl (by kernel_rfl) (by kernel_rfl) (by kernel_rfl) rfl (Yl.move rfl) rfl (HSub.cons rfl (HSub.cons rfl (HSub.nil _))) ?_
              refine GA.take 16 rfl (by kernel_rfl) (by kernel_rfl) (by kernel_rfl) rfl (Yl.indexArr Tryd.underlying26 T.sz4 rfl rfl (by omega) (by omega)) rfl (HSub.cons rfl (HSub.cons rfl (HSub.nil _))) ?_
              refine GA.take 17 rfl (by kernel_rfl) (by kernel_rfl) (by kernel_rfl) rfl (Yl.load 4 rfl T.sc4 rfl (flc_at g (by omega) (by omega))) rfl (HSub.cons rfl (HSub.cons rfl (HSub.nil _))) ?_
              refine GA.take 18 rfl (by kernel_rfl) (by kernel_rfl) (by kernel_rfl) rfl (Yl.pick_t rfl rfl) rfl (HSub.cons rfl (HSub.cons rfl (HSub.nil _))) ?_
              refine GA.take 19 rfl (by kernel_rfl) (by kernel_rfl) (by kernel_rfl) rfl (Yl.move rfl) rfl (HSub.cons rfl (HSub.cons rfl (HSub.nil _))) ?_
              refine GA.take 20 rfl (by kernel_rfl) (by kernel_rfl) (by kernel_rfl) rfl (Yl.indexArr Tryd.underlying26 T.sz4 rfl rfl (by omega) (by omega)) rfl (HSub.cons rfl (HSub.cons rfl (HSub.nil _))) ?_
              refine GA.take 21 rfl (by kernel_rfl) (by kernel_rfl) (by kernel_rfl) rfl (Yl.load 3 rfl T.sc4 rfl (flc_at f (by omega) (by omega))) rfl (HSub.cons rfl (HSub.cons rfl (HSub.nil _))) ?_
              refine GA.take 22 rfl (by kernel_rfl) (by kernel_rfl) (by kernel_rfl) rfl (Yl.move rfl) rfl (HSub.cons rfl (HSub.cons rfl (HSub.nil _))) ?_
              refine GQ.re (v' := .bool true) 118 rfl (congrArg Value.bool hfs) ?_
              refine GA.take 23 rfl (by kernel_rfl) (by kernel_rfl) (by kernel_rfl) rfl (Yl.move rfl) rfl (HSub.cons rfl (HSub.cons rfl (HSub.nil _))) ?_
              refine GA.take 24 rfl (by kernel_rfl) (by kernel_rfl) (by kernel_rfl) rfl (Yl.indexArr Tryd.underlying26 T.sz4 rfl rfl (by omega) (by omega)) rfl (HSub.cons rfl (HSub.cons rfl (HSub.nil _))) ?_
              refine GA.take 25 rfl (by kernel_rfl) (by kernel_rfl) (by kernel_rfl) rfl (Yl.load 4 rfl T.sc4 rfl (flc_at g (by omega) (by omega))) rfl (HSub.cons rfl (HSub.cons rfl (HSub.nil _))) ?_
              refine GA.take 26 rfl (by kernel_rfl) (by kernel_rfl) (by kernel_rfl) rfl (Yl.not rfl) rfl (HSub.cons rfl (HSub.cons rfl (HSub.nil _))) ?_
              refine GA.take 27 rfl (by kernel_rfl) (by kernel_rfl) (by kernel_rfl) rfl (Yl.pick_t rfl rfl) rfl (HSub.cons rfl (HSub.cons rfl (HSub.nil _))) ?_
              refine GA.take 28 rfl (by kernel_rfl) (by kernel_rfl) (by kernel_rfl) rfl (Yl.indexArr Tryd.underlying26 T.sz4 rfl rfl (by omega) (by omega)) rfl (HSub.cons rfl (HSub.cons rfl (HSub.nil _))) ?_
              refine GQ.one 29 (by kernel_rfl) rfl rfl ?_
              refine GO.store 13 rfl T.sz4 rfl rfl rfl (by rw [flc_size]; omega) rfl ?_
              refine GK.any (HSub.cons rfl (HSub.cons rfl (HSub.nil _))) ?_
              refine GA.take 30 rfl (by kernel_rfl) (by kernel_rfl) (by kernel_rfl) rfl (Yl.indexArr Tryd.underlying26 T.sz4 rfl rfl (by omega) (by omega)) rfl (HSub.cons rfl (HSub.cons rfl (HSub.nil _))) ?_
              refine GQ.one 31 (by kernel_rfl) rfl rfl ?_
              refine GO.store 14 rfl T.sz4 rfl rfl rfl (by rw [flc_size]; omega) rfl ?_
              refine GK.any (HSub.cons rfl (HSub.cons rfl (HSub.nil _))) ?_
              refine GA.take 32 rfl (by kernel_rfl) (by kernel_rfl) (by kernel_rfl) rfl (Yl.indexArr Tryd.underlying26 T.sz4 rfl rfl (by omega) (by omega)) rfl (HSub.cons rfl (HSub.cons rfl (HSub.nil _))) ?_
              refine GQ.one 33 (by kernel_rfl) rfl rfl ?_
              refine GO.store 15 rfl T.sz4 rfl rfl rfl (by rw [flc_size]; omega) rfl ?_
              refine GK.any (HSub.cons rfl (HSub.cons rfl (HSub.nil _))) ?_
              refine GQ.done (by kernel_rfl) ?_
              refine GE.then_n ?_
              refine GC.region rfl ?_
              refine GL.yl (Yl.move rfl) rfl ?_
              refine GL.yl (Yl.move rfl) rfl ?_
              refine GL.both 128 rfl (fun hws => ?_) (fun hws => ?_)
              · skip
                refine GL.want rfl ?_
                refine GL.yl (Yl.move rfl) rfl ?_
                refine GL.want rfl ?_
                refine GL.yl (Yl.indexArr Tryd.underlying26 T.sz4 rfl rfl (by omega) (by omega)) rfl ?_
                refine GL.want rfl ?_
                refine GL.yl (Yl.load 4 rfl T.sc4 rfl (flc_at g (by omega) (by omega))) rfl ?_
                refine GL.want rfl ?_
                refine GL.yl (Yl.move rfl) rfl ?_
                refine GL.both 132 rfl (fun hgs => ?_) (fun hgs => ?_)
                · skip
                  replace hgs : g s = true := hgs
                  refine GL.skip rfl rfl ?_
                  refine GL.skip rfl rfl ?_
                  refine GL.skip rfl rfl ?_
                  refine GL.skip rfl rfl ?_
                  refine GL.want rfl ?_
                  refine GL.yl (Yl.pick_t rfl rfl) rfl ?_
                  refine GL.yl (Yl.pick_t rfl rfl) rfl ?_
                  refine GL.yl (Yl.assign rfl) rfl ?_
                  refine GL.nil ?_
                  refine GE.in_n ?_
                  refine GE.then_n ?_
                  refine GC.region rfl ?_
                  refine GL.yl (Yl.add rfl rfl (by omega) (by omega)) rfl ?_
                  refine GL.yl (Yl.move rfl) rfl ?_
                  refine GL.nil ?_
                  refine GE.again (s + 1) (by omega) (by omega) ?_ ?_
                  · exact (Sub.cons rfl (Sub.cons rfl (Sub.cons rfl (Sub.cons rfl (Sub.cons rfl (Sub.cons rfl (Sub.cons rfl (Sub.cons' rfl (congrArg Value.bool (by rw [wi_succ]; simp_all)) (Sub.cons rfl (Sub.nil _))))))))))
                  · exact (HSub.cons rfl (HSub.cons rfl (HSub.cons' rfl ((congrArg (fun cs => box b13 cs 26) (flc_next (P := fun i => f i || g i) (by simp_all)))) (HSub.cons' rfl ((congrArg (fun cs => box b14 cs 26) (flc_next (P := fun i => f i && g i) (by simp_all)))) (HSub.cons' rfl ((congrArg (fun cs => box b15 cs 26) (flc_next (P := fun i => f i && !g i) (by simp_all)))) (HSub.nil _))))))
                · skip
                  replace hgs : g s = false := hgs
                  refine GL.want rfl ?_
                  refine GL.yl (Yl.move rfl) rfl ?_
                  refine GL.want rfl ?_
                  refine GL.yl (Yl.indexArr Tryd.underlying26 T.sz4 rfl rfl (by omega) (by omega)) rfl ?_
                  refine GL.want rfl ?_
                  refine GL.yl (Yl.load 3 rfl T.sc4 rfl (flc_at f (by omega) (by omega))) rfl ?_
                  refine GL.want rfl ?_
                  refine GL.yl (Yl.not rfl) rfl ?_
                  refine GL.want rfl ?_
                  refine GL.yl (Yl.pick_f rfl rfl) rfl ?_
                  refine GL.yl (Yl.pick_t rfl rfl) rfl ?_
                  refine GL.yl (Yl.assign rfl) rfl ?_
                  refine GL.nil ?_
                  refine GE.in_n ?_
                  refine GE.then_n ?_
                  refine GC.region rfl ?_
                  refine GL.yl (Yl.add rfl rfl (by omega) (by omega)) rfl ?_
                  refine GL.yl (Yl.move rfl) rfl ?_
                  refine GL.nil ?_
                  refine GE.again (s + 1) (by omega) (by omega) ?_ ?_
                  · exact (Sub.cons rfl (Sub.cons rfl (Sub.cons rfl (Sub.cons rfl (Sub.cons rfl (Sub.cons rfl (Sub.cons rfl (Sub.cons' rfl (congrArg Value.bool (by rw [wi_succ]; simp_all)) (Sub.cons rfl (Sub.nil _))))))))))
                  · exact (HSub.cons rfl (HSub.cons rfl (HSub.cons' rfl ((congrArg (fun cs => box b13 cs 26) (flc_next (P := fun i => f i || g i) (by simp_all)))) (HSub.cons' rfl ((congrArg (fun cs => box b14 cs 26) (flc_next (P := fun i => f i && g i) (by simp_all)))) (HSub.cons' rfl ((congrArg (fun cs => box b15 cs 26) (flc_next (P := fun i => f i && !g i) (by simp_all)))) (HSub.nil _))))))
              · skip
                refine GL.skip rfl rfl ?_
                refine GL.skip rfl rfl ?_
                refine GL.skip rfl rfl ?_
                refine GL.skip rfl rfl ?_
                refine GL.skip rfl rfl ?_
                refine GL.skip rfl rfl ?_
                refine GL.skip rfl rfl ?_
                refine GL.skip rfl rfl ?_
                refine GL.skip rfl rfl ?_
                refine GL.yl (Yl.pick_f rfl rfl) rfl ?_
                refine GL.yl (Yl.assign rfl) rfl ?_
                refine GL.nil ?_
                refine GE.in_n ?_
                refine GE.then_n ?_
                refine GC.region rfl ?_
                refine GL.yl (Yl.add rfl rfl (by omega) (by omega)) rfl ?_
                refine GL.yl (Yl.move rfl) rfl ?_
                refine GL.nil ?_
                refine GE.again (s + 1) (by omega) (by omega) ?_ ?_
                · exact (Sub.cons rfl (Sub.cons rfl (Sub.cons rfl (Sub.cons rfl (Sub.cons rfl (Sub.cons rfl (Sub.cons rfl (Sub.cons' rfl (congrArg Value.bool (by rw [wi_succ]; simp_all)) (Sub.cons rfl (Sub.nil _))))))))))
                · exact (HSub.cons rfl (HSub.cons rfl (HSub.cons' rfl ((congrArg (fun cs => box b13 cs 26) (flc_next (P := fun i => f i || g i) (by simp_all)))) (HSub.cons' rfl ((congrArg (fun cs => box b14 cs 26) (flc_next (P := fun i => f i && g i) (by simp_all)))) (HSub.cons' rfl ((congrArg (fun cs => box b15 cs 26) (flc_next (P := fun i => f i && !g i) (by simp_all)))) (HSub.nil _))))))
            · skip
              replace hfs : f s = false := hfs
              refine GA.take 7 rfl (by kernel_rfl) (by kernel_rfl) (by kernel_rfl) rfl (Yl.move rfl) rfl (HSub.cons rfl (HSub.cons rfl (HSub.nil _))) ?_
              refine GA.take 8 rfl (by kernel_rfl) (by kernel_rfl) (by kernel_rfl) rfl (Yl.indexArr Tryd.underlying26 T.sz4 rfl rfl (by omega) (by omega)) rfl (HSub.cons rfl (HSub.cons rfl (HSub.nil _))) ?_
              refine GA.take 9 rfl (by kernel_rfl) (by kernel_rfl) (by kernel_rfl) rfl (Yl.load 4 rfl T.sc4 rfl (flc_at g (by omega) (by omega))) rfl (HSub.cons rfl (HSub.cons rfl (HSub.nil _))) ?_
              refine GA.take 10 rfl (by kernel_rfl) (by kernel_rfl) (by kernel_rfl) rfl (Yl.pick_f rfl rfl) rfl (HSub.cons rfl (HSub.cons rfl (HSub.nil _))) ?_
              refine GA.take 11 rfl (by kernel_rfl) (by kernel_rfl) (by kernel_rfl) rfl (Yl.move rfl) rfl (HSub.cons rfl (HSub.cons rfl (HSub.nil _))) ?_
              refine GA.take 12 rfl (by kernel_rfl) (by kernel_rfl) (by kernel_rfl) rfl (Yl.indexArr Tryd.underlying26 T.sz4 rfl rfl (by omega) (by omega)) rfl (HSub.cons rfl (HSub.cons rfl (HSub.nil _))) ?_
              refine GA.take 13 rfl (by kernel_rfl) (by kernel_rfl) (by kernel_rfl) rfl (Yl.load 3 rfl T.sc4 rfl (flc_at f (by omega) (by omega))) rfl (HSub.cons rfl (HSub.cons rfl (HSub.nil _))) ?_
              refine GA.take 14 rfl (by kernel_rfl) (by kernel_rfl) (by kernel_rfl) rfl (Yl.move rfl) rfl (HSub.cons rfl (HSub.cons rfl (HSub.nil _))) ?_
              refine GQ.re (v' := .bool false) 110 rfl (congrArg Value.bool hfs) ?_
              refine GA.pass 15 rfl (by kernel_rfl) (by kernel_rfl) (by kernel_rfl) rfl rfl (HSub.cons rfl (HSub.cons rfl (HSub.nil _))) ?_
              refine GA.pass 16 rfl (by kernel_rfl) (by kernel_rfl) (by kernel_rfl) rfl rfl (HSub.cons rfl (HSub.cons rfl (HSub.nil _))) ?_
              refine GA.pass 17 rfl (by kernel_rfl) (by kernel_rfl) (by kernel_rfl) rfl rfl (HSub.cons rfl (HSub.cons rfl (HSub.nil _))) ?_
              refine GA.take 18 rfl (by kernel_rfl) (by kernel_rfl) (by kernel_rfl) rfl (Yl.pick_f rfl rfl) rfl (HSub.cons rfl (HSub.cons rfl (HSub.nil _))) ?_
              refine GA.take 19 rfl (by kernel_rfl) (by kernel_rfl) (by kernel_rfl) rfl (Yl.move rfl) rfl (HSub.cons rfl (HSub.cons rfl (HSub.nil _))) ?_
              refine GA.take 20 rfl (by kernel_rfl) (by kernel_rfl) (by kernel_rfl) rfl (Yl.indexArr Tryd.underlying26 T.sz4 rfl rfl (by omega) (by omega)) rfl (HSub.cons rfl (HSub.cons rfl (HSub.nil _))) ?_
              refine GA.take 21 rfl (by kernel_rfl) (by kernel_rfl) (by kernel_rfl) rfl (Yl.load 3 rfl T.sc4 rfl (flc_at f (by omega) (by omega))) rfl (HSub.cons rfl (HSub.cons rfl (HSub.nil _))) ?_
              refine GA.take 22 rfl (by kernel_rfl) (by kernel_rfl) (by kernel_rfl) rfl (Yl.move rfl) rfl (HSub.cons rfl (HSub.cons rfl (HSub.nil _))) ?_
              refine GQ.re (v' := .bool false) 118 rfl (congrArg Value.bool hfs) ?_
              refine GA.pass 23 rfl (by kernel_rfl) (by kernel_rfl) (by kernel_rfl) rfl rfl (HSub.cons rfl (HSub.cons rfl (HSub.nil _))) ?_
              refine GA.pass 24 rfl (by kernel_rfl) (by kernel_rfl) (by kernel_rfl) rfl rfl (HSub.cons rfl (HSub.cons rfl (HSub.nil _))) ?_
              refine GA.pass 25 rfl (by kernel_rfl) (by kernel_rfl) (by kernel_rfl) rfl rfl (HSub.cons rfl (HSub.cons rfl (HSub.nil _))) ?_
              refine GA.pass 26 rfl (by kernel_rfl) (by kernel_rfl) (by kernel_rfl) rfl rfl (HSub.cons rfl (HSub.cons rfl (HSub.nil _))) ?_
              refine GA.take 27 rfl (by kernel_rfl) (by kernel_rfl) (by kernel_rfl) rfl (Yl.pick_f rfl rfl) rfl (HSub.cons rfl (HSub.cons rfl (HSub.nil _))) ?_
              refine GA.take 28 rfl (by kernel_rfl) (by kernel_rfl) (by kernel_rfl) rfl (Yl.indexArr Tryd.underlying26 T.sz4 rfl rfl (by omega) (by omega)) rfl (HSub.cons rfl (HSub.cons rfl (HSub.nil _))) ?_
              refine GQ.one 29 (by kernel_rfl) rfl rfl ?_
              refine GO.store 13 rfl T.sz4 rfl rfl rfl (by rw [flc_size]; omega) rfl ?_
              refine GK.any (HSub.cons rfl (HSub.cons rfl (HSub.nil _))) ?_
              refine GA.take 30 rfl (by kernel_rfl) (by kernel_rfl) (by kernel_rfl) rfl (Yl.indexArr Tryd.underlying26 T.sz4 rfl rfl (by omega) (by omega)) rfl (HSub.cons rfl (HSub.cons rfl (HSub.nil _))) ?_
              refine GQ.one 31 (by kernel_rfl) rfl rfl ?_
              refine GO.store 14 rfl T.sz4 rfl rfl rfl (by rw [flc_size]; omega) rfl ?_
              refine GK.any (HSub.cons rfl (HSub.cons rfl (HSub.nil _))) ?_
              refine GA.take 32 rfl (by kernel_rfl) (by kernel_rfl) (by kernel_rfl) rfl (Yl.indexArr Tryd.underlying26 T.sz4 rfl rfl (by omega) (by omega)) rfl (HSub.cons rfl (HSub.cons rfl (HSub.nil _))) ?_
              refine GQ.one 33 (by kernel_rfl) rfl rfl ?_
              refine GO.store 15 rfl T.sz4 rfl rfl rfl (by rw [flc_size]; omega) rfl ?_
              refine GK.any (HSub.cons rfl (HSub.cons rfl (HSub.nil _))) ?_
              refine GQ.done (by kernel_rfl) ?_
              refine GE.then_n ?_
              refine GC.region rfl ?_
              refine GL.yl (Yl.move rfl) rfl ?_
              refine GL.yl (Yl.move rfl) rfl ?_
              refine GL.both 128 rfl (fun hws => ?_) (fun hws => ?_)
              · skip
                refine GL.want rfl ?_
                refine GL.yl (Yl.move rfl) rfl ?_
                refine GL.want rfl ?_
                refine GL.yl (Yl.indexArr Tryd.underlying26 T.sz4 rfl rfl (by omega) (by omega)) rfl ?_
                refine GL.want rfl ?_
                refine GL.yl (Yl.load 4 rfl T.sc4 rfl (flc_at g (by omega) (by omega))) rfl ?_
                refine GL.want rfl ?_
                refine GL.yl (Yl.move rfl) rfl ?_
                refine GL.both 132 rfl (fun hgs => ?_) (fun hgs => ?_)
                · skip
                  replace hgs : g s = true := hgs
                  refine GL.skip rfl rfl ?_
                  refine GL.skip rfl rfl ?_
                  refine GL.skip rfl rfl ?_
                  refine GL.skip rfl rfl ?_
                  refine GL.want rfl ?_
                  refine GL.yl (Yl.pick_t rfl rfl) rfl ?_
                  refine GL.yl (Yl.pick_t rfl rfl) rfl ?_
                  refine GL.yl (Yl.assign rfl) rfl ?_
                  refine GL.nil ?_
                  refine GE.in_n ?_
                  refine GE.then_n ?_
                  refine GC.region rfl ?_
                  refine GL.yl (Yl.add rfl rfl (by omega) (by omega)) rfl ?_
                  refine GL.yl (Yl.move rfl) rfl ?_
                  refine GL.nil ?_
                  refine GE.again (s + 1) (by omega) (by omega) ?_ ?_
                  · exact (Sub.cons rfl (Sub.cons rfl (Sub.cons rfl (Sub.cons rfl (Sub.cons rfl (Sub.cons rfl (Sub.cons rfl (Sub.cons' rfl (congrArg Value.bool (by rw [wi_succ]; simp_all)) (Sub.cons rfl (Sub.nil _))))))))))
                  · exact (HSub.cons rfl (HSub.cons rfl (HSub.cons' rfl ((congrArg (fun cs => box b13 cs 26) (flc_next (P := fun i => f i || g i) (by simp_all)))) (HSub.cons' rfl ((congrArg (fun cs => box b14 cs 26) (flc_next (P := fun i => f i && g i) (by simp_all)))) (HSub.cons' rfl ((congrArg (fun cs => box b15 cs 26) (flc_next (P := fun i => f i && !g i) (by simp_all)))) (HSub.nil _))))))
                · skip
                  replace hgs : g s = false := hgs
                  refine GL.want rfl ?_
                  refine GL.yl (Yl.move rfl) rfl ?_
                  refine GL.want rfl ?_
                  refine GL.yl (Yl.indexArr Tryd.underlying26 T.sz4 rfl rfl (by omega) (by omega)) rfl ?_
                  refine GL.want rfl ?_
                  refine GL.yl (Yl.load 3 rfl T.sc4 rfl (flc_at f (by omega) (by omega))) rfl ?_
                  refine GL.want rfl ?_
                  refine GL.yl (Yl.not rfl) rfl ?_
                  refine GL.want rfl ?_
                  refine GL.yl (Yl.pick_f rfl rfl) rfl ?_
                  refine GL.yl (Yl.pick_t rfl rfl) rfl ?_
                  refine GL.yl (Yl.assign rfl) rfl ?_
                  refine GL.nil ?_
                  refine GE.in_n ?_
                  refine GE.then_n ?_
                  refine GC.region rfl ?_
                  refine GL.yl (Yl.add rfl rfl (by omega) (by omega)) rfl ?_
                  refine GL.yl (Yl.move rfl) rfl ?_
                  refine GL.nil ?_
                  refine GE.again (s + 1) (by omega) (by omega) ?_ ?_
                  · exact (Sub.cons rfl (Sub.cons rfl (Sub.cons rfl (Sub.cons rfl (Sub.cons rfl (Sub.cons rfl (Sub.cons rfl (Sub.cons' rfl (congrArg Value.bool (by rw [wi_succ]; simp_all)) (Sub.cons rfl (Sub.nil _))))))))))
                  · exact (HSub.cons rfl (HSub.cons rfl (HSub.cons' rfl ((congrArg (fun cs => box b13 cs 26) (flc_next (P := fun i => f i || g i) (by simp_all)))) (HSub.cons' rfl ((congrArg (fun cs => box b14 cs 26) (flc_next (P := fun i => f i && g i) (by simp_all)))) (HSub.cons' rfl ((congrArg (fun cs => box b15 cs 26) (flc_next (P := fun i => f i && !g i) (by simp_all)))) (HSub.nil _))))))
              · skip
                refine GL.skip rfl rfl ?_
                refine GL.skip rfl rfl ?_
                refine GL.skip rfl rfl ?_
                refine GL.skip rfl rfl ?_
                refine GL.skip rfl rfl ?_
                refine GL.skip rfl rfl ?_
                refine GL.skip rfl rfl ?_
                refine GL.skip rfl rfl ?_
                refine GL.skip rfl rfl ?_
                refine GL.yl (Yl.pick_f rfl rfl) rfl ?_
                refine GL.yl (Yl.assign rfl) rfl ?_
                refine GL.nil ?_
                refine GE.in_n ?_
                refine GE.then_n ?_
                refine GC.region rfl ?_
                refine GL.yl (Yl.add rfl rfl (by omega) (by omega)) rfl ?_
                refine GL.yl (Yl.move rfl) rfl ?_
                refine GL.nil ?_
                refine GE.again (s + 1) (by omega) (by omega) ?_ ?_
                · exact (Sub.cons rfl (Sub.cons rfl (Sub.cons rfl (Sub.cons rfl (Sub.cons rfl (Sub.cons rfl (Sub.cons rfl (Sub.cons' rfl (congrArg Value.bool (by rw [wi_succ]; simp_all)) (Sub.cons rfl (Sub.nil _))))))))))
                · exact (HSub.cons rfl (HSub.cons rfl (HSub.cons' rfl ((congrArg (fun cs => box b13 cs 26) (flc_next (P := fun i => f i || g i) (by simp_all)))) (HSub.cons' rfl ((congrArg (fun cs => box b14 cs 26) (flc_next (P := fun i => f i && g i) (by simp_all)))) (HSub.cons' rfl ((congrArg (fun cs => box b15 cs 26) (flc_next (P := fun i => f i && !g i) (by simp_all)))) (HSub.nil _))))))
          · skip
            have e : s = 64 := by omega
            subst e
            refine GC.exit ?_
            refine GE.then_exit ?_
            refine GE.then_exit ?_
            refine GE.in_hit ?_
            refine GE.met (()) trivial ?_ ?_
            · exact (Sub.cons rfl (Sub.cons rfl (Sub.cons rfl (Sub.cons rfl (Sub.cons rfl (Sub.cons rfl (Sub.cons rfl (Sub.cons rfl (Sub.nil _)))))))))
            · exact (HSub.cons rfl (HSub.cons rfl (HSub.cons' rfl ((congrArg (fun cs => box b13 cs 26) (flc_full _))) (HSub.cons' rfl ((congrArg (fun cs => box b14 cs 26) (flc_full _))) (HSub.cons' rfl ((congrArg (fun cs => box b15 cs 26) (flc_full _))) (HSub.nil _))))))
      · skip
        intro _ _
        refine GE.then_n ?_
        refine GC.seq ?_
        refine GC.seq ?_
        refine GC.draw T.mixed rfl ([(13, box b13 (flc (fun i => f i || g i)) 26), (14, box b14 (flc (fun i => f i && g i)) 26), (15, box b15 (flc (fun i => f i && !g i)) 26)]) ?_
        refine GA.take 0 rfl (by kernel_rfl) (by kernel_rfl) (by kernel_rfl) rfl (Yl.move rfl) rfl (HSub.cons rfl (HSub.cons rfl (HSub.cons rfl (HSub.nil _)))) ?_
        refine GA.take 1 rfl (by kernel_rfl) (by kernel_rfl) (by kernel_rfl) rfl (Yl.move rfl) rfl (HSub.cons rfl (HSub.cons rfl (HSub.cons rfl (HSub.nil _)))) ?_
        refine GA.take 2 rfl (by kernel_rfl) (by kernel_rfl) (by kernel_rfl) rfl (Yl.move rfl) rfl (HSub.cons rfl (HSub.cons rfl (HSub.cons rfl (HSub.nil _)))) ?_
        refine GA.take 5 rfl (by kernel_rfl) (by kernel_rfl) (by kernel_rfl) rfl (Yl.loadAll 13 rfl T.ag26 (flc_size (fun i => f i || g i)) rfl) rfl (HSub.cons rfl (HSub.cons rfl (HSub.cons rfl (HSub.nil _)))) ?_
        refine GQ.one 3 (by kernel_rfl) rfl rfl ?_
        refine GO.buildSlice 143 (cs := #[u64 (setF f), u64 (setF g), u64 (setF f)]) Tryd.underlying61 T.zr29 T.sz29 rfl rfl rfl (sliceCells_three rfl rfl rfl rfl) rfl ?_
        intro b143 hb143
        refine GK.any (HSub.cons rfl (HSub.cons rfl (HSub.cons rfl (HSub.nil _)))) ?_
        refine GQ.one 4 (by kernel_rfl) rfl rfl ?_
        refine GO.callv _ T.en13 rfl rfl (fun w hw => union_calls _ [setF f, setF g, setF f] w (by simp) (hw.boxSl (k := 143) rfl)) ?_
        refine GK.any (HSub.cons rfl (HSub.cons rfl (HSub.cons rfl (HSub.nil _)))) ?_
        refine GQ.one 6 (by kernel_rfl) rfl rfl ?_
        refine GO.callv _ T.en11 rfl rfl (fun w hw => set_calls (fun i => f i || g i) w) ?_
        refine GK.any (HSub.cons rfl (HSub.cons rfl (HSub.cons rfl (HSub.nil _)))) ?_
        refine GA.take 7 rfl (by kernel_rfl) (by kernel_rfl) (by kernel_rfl) rfl (Yl.uneq rfl rfl) rfl (HSub.cons rfl (HSub.cons rfl (HSub.cons rfl (HSub.nil _)))) ?_
        refine GA.take 8 rfl (by kernel_rfl) (by kernel_rfl) (by kernel_rfl) rfl (Yl.move rfl) rfl (HSub.cons rfl (HSub.cons rfl (HSub.cons rfl (HSub.nil _)))) ?_
        refine GQ.re (v' := .bool false) 148 rfl (congrArg Value.bool (decide_eq_false (not_not_intro (union_flags f g)))) ?_
        refine GQ.one 9 (by kernel_rfl) rfl rfl ?_
        refine GO.callv _ T.en13 rfl rfl (fun w hw => union_calls _ [] w (by simp) (isSl_nil w)) ?_
        refine GK.any (HSub.cons rfl (HSub.cons rfl (HSub.cons rfl (HSub.nil _)))) ?_
        refine GA.take 10 rfl (by kernel_rfl) (by kernel_rfl) (by kernel_rfl) rfl (Yl.uneq rfl (show ev _ _ = some (u64 0#64) from rfl)) rfl (HSub.cons rfl (HSub.cons rfl (HSub.cons rfl (HSub.nil _)))) ?_
        refine GA.take 11 rfl (by kernel_rfl) (by kernel_rfl) (by kernel_rfl) rfl (Yl.pick_f rfl rfl) rfl (HSub.cons rfl (HSub.cons rfl (HSub.cons rfl (HSub.nil _)))) ?_
        refine GA.take 12 rfl (by kernel_rfl) (by kernel_rfl) (by kernel_rfl) rfl (Yl.move rfl) rfl (HSub.cons rfl (HSub.cons rfl (HSub.cons rfl (HSub.nil _)))) ?_
        refine GQ.re (v' := .bool false) 152 rfl (congrArg Value.bool (decide_eq_false (not_not_intro rfl))) ?_
        refine GA.take 13 rfl (by kernel_rfl) (by kernel_rfl) (by kernel_rfl) rfl (Yl.move rfl) rfl (HSub.cons rfl (HSub.cons rfl (HSub.cons rfl (HSub.nil _)))) ?_
        refine GA.take 14 rfl (by kernel_rfl) (by kernel_rfl) (by kernel_rfl) rfl (Yl.move rfl) rfl (HSub.cons rfl (HSub.cons rfl (HSub.cons rfl (HSub.nil _)))) ?_
        refine GA.take 16 rfl (by kernel_rfl) (by kernel_rfl) (by kernel_rfl) rfl (Yl.loadAll 14 rfl T.ag26 (flc_size (fun i => f i && g i)) rfl) rfl (HSub.cons rfl (HSub.cons rfl (HSub.cons rfl (HSub.nil _)))) ?_
        refine GQ.one 15 (by kernel_rfl) rfl rfl ?_
        refine GO.callv _ T.en14 rfl rfl (fun w hw => meet_calls _ _ w) ?_
        refine GK.any (HSub.cons rfl (HSub.cons rfl (HSub.cons rfl (HSub.nil _)))) ?_
        refine GQ.one 17 (by kernel_rfl) rfl rfl ?_
        refine GO.callv _ T.en11 rfl rfl (fun w hw => set_calls (fun i => f i && g i) w) ?_
        refine GK.any (HSub.cons rfl (HSub.cons rfl (HSub.cons rfl (HSub.nil _)))) ?_
        refine GA.take 18 rfl (by kernel_rfl) (by kernel_rfl) (by kernel_rfl) rfl (Yl.uneq rfl rfl) rfl (HSub.cons rfl (HSub.cons rfl (HSub.cons rfl (HSub.nil _)))) ?_
        refine GA.take 19 rfl (by kernel_rfl) (by kernel_rfl) (by kernel_rfl) rfl (Yl.pick_f rfl rfl) rfl (HSub.cons rfl (HSub.cons rfl (HSub.cons rfl (HSub.nil _)))) ?_
        refine GA.take 20 rfl (by kernel_rfl) (by kernel_rfl) (by kernel_rfl) rfl (Yl.move rfl) rfl (HSub.cons rfl (HSub.cons rfl (HSub.cons rfl (HSub.nil _)))) ?_
        refine GQ.re (v' := .bool false) 160 rfl (congrArg Value.bool (decide_eq_false (not_not_intro (meet_flags f g)))) ?_
        refine GA.take 21 rfl (by kernel_rfl) (by kernel_rfl) (by kernel_rfl) rfl (Yl.move rfl) rfl (HSub.cons rfl (HSub.cons rfl (HSub.cons rfl (HSub.nil _)))) ?_
        refine GA.take 22 rfl (by kernel_rfl) (by kernel_rfl) (by kernel_rfl) rfl (Yl.move rfl) rfl (HSub.cons rfl (HSub.cons rfl (HSub.cons rfl (HSub.nil _)))) ?_
        refine GA.take 24 rfl (by kernel_rfl) (by kernel_rfl) (by kernel_rfl) rfl (Yl.loadAll 15 rfl T.ag26 (flc_size (fun i => f i && !g i)) rfl) rfl (HSub.cons rfl (HSub.cons rfl (HSub.cons rfl (HSub.nil _)))) ?_
        refine GQ.one 23 (by kernel_rfl) rfl rfl ?_
        refine GO.callv _ T.en15 rfl rfl (fun w hw => minus_calls _ _ w) ?_
        refine GK.any (HSub.cons rfl (HSub.cons rfl (HSub.cons rfl (HSub.nil _)))) ?_
        refine GQ.one 25 (by kernel_rfl) rfl rfl ?_
        refine GO.callv _ T.en11 rfl rfl (fun w hw => set_calls (fun i => f i && !g i) w) ?_
        refine GK.any (HSub.cons rfl (HSub.cons rfl (HSub.cons rfl (HSub.nil _)))) ?_
        refine GA.take 26 rfl (by kernel_rfl) (by kernel_rfl) (by kernel_rfl) rfl (Yl.uneq rfl rfl) rfl (HSub.cons rfl (HSub.cons rfl (HSub.cons rfl (HSub.nil _)))) ?_
        refine GA.take 27 rfl (by kernel_rfl) (by kernel_rfl) (by kernel_rfl) rfl (Yl.pick_f rfl rfl) rfl (HSub.cons rfl (HSub.cons rfl (HSub.cons rfl (HSub.nil _)))) ?_
        refine GA.take 28 rfl (by kernel_rfl) (by kernel_rfl) (by kernel_rfl) rfl (Yl.move rfl) rfl (HSub.cons rfl (HSub.cons rfl (HSub.cons rfl (HSub.nil _)))) ?_
        refine GQ.re (v' := .bool false) 168 rfl (congrArg Value.bool (decide_eq_false (not_not_intro (minus_flags f g)))) ?_
        refine GA.take 29 rfl (by kernel_rfl) (by kernel_rfl) (by kernel_rfl) rfl (Yl.move rfl) rfl (HSub.cons rfl (HSub.cons rfl (HSub.cons rfl (HSub.nil _)))) ?_
        refine GA.take 30 rfl (by kernel_rfl) (by kernel_rfl) (by kernel_rfl) rfl (Yl.move rfl) rfl (HSub.cons rfl (HSub.cons rfl (HSub.cons rfl (HSub.nil _)))) ?_
        refine GA.take 32 rfl (by kernel_rfl) (by kernel_rfl) (by kernel_rfl) rfl (Yl.move rfl) rfl (HSub.cons rfl (HSub.cons rfl (HSub.cons rfl (HSub.nil _)))) ?_
        refine GQ.one 31 (by kernel_rfl) rfl rfl ?_
        refine GO.callv _ T.en16 rfl rfl (fun w hw => within_calls _ _ w) ?_
        refine GK.any (HSub.cons rfl (HSub.cons rfl (HSub.cons rfl (HSub.nil _)))) ?_
        refine GA.take 33 rfl (by kernel_rfl) (by kernel_rfl) (by kernel_rfl) rfl (Yl.bneq Tryd.underlying4 rfl rfl) rfl (HSub.cons rfl (HSub.cons rfl (HSub.cons rfl (HSub.nil _)))) ?_
        refine GA.take 34 rfl (by kernel_rfl) (by kernel_rfl) (by kernel_rfl) rfl (Yl.pick_f rfl rfl) rfl (HSub.cons rfl (HSub.cons rfl (HSub.cons rfl (HSub.nil _)))) ?_
        refine GQ.done (by kernel_rfl) ?_
        refine GE.then_n ?_
        refine GC.re (v' := .bool false) 174 rfl (congrArg Value.bool (by rw [within_flags] <;> simp)) ?_
        refine GC.cond_ff rfl ?_
        refine GC.skip ?_
        refine GE.then_n ?_
        refine GC.seq ?_
        refine GC.seq ?_
        refine GC.region rfl ?_
        refine GL.yl (Yl.assign rfl) rfl ?_
        refine GL.nil ?_
        refine GE.then_n ?_
        refine GC.block ?_
        refine GC.loop (σ := Int) (fun s => -2 ≤ s ∧ s ≤ 67) (fun s => (67 - s).toNat) (fun s => [(3, box b3 (flc f) 26), (4, box b4 (flc g) 26)]) (fun s => [(3, .pointer (some ⟨b3, 0, none⟩)), (4, .pointer (some ⟨b4, 0, none⟩)), (11, u64 (setF f)), (12, u64 (setF g)), (18, .int .i64 s)]) (-2) ?_ ?_ ?_ ?_
        · exact ⟨by omega, by omega⟩
        · exact (Sub.cons rfl (Sub.cons rfl (Sub.cons rfl (Sub.cons rfl (Sub.cons rfl (Sub.nil _))))))
        · exact HSub.cons rfl (HSub.cons rfl (HSub.nil _))
        · skip
          rintro k ⟨hk2, hk67⟩
          obtain ⟨m, hm⟩ : ∃ m : Nat, (m : Int) = min (max k 0) 64 := ⟨(min (max k 0) 64).toNat, by omega⟩
          refine GC.seq ?_
          refine GC.seq ?_
          refine GC.region rfl ?_
          refine GL.yl (Yl.move rfl) rfl ?_
          refine GL.yl (Yl.lss rfl rfl) rfl ?_
          refine GL.nil ?_
          refine GE.then_n ?_
          refine GC.cond_d rfl (fun hc => ?_) (fun hc => ?_)
          · skip
            refine GC.skip ?_
            refine GE.then_n ?_
            refine GC.seq ?_
            refine GC.block ?_
            refine GC.seq ?_
            refine GC.join (σ := Nat × Nat) (fun s => True) (fun s => [(3, box b3 (flc f) 26), (4, box b4 (flc g) 26), (20, box s.1 (flc f) 26), (21, box s.2 (flc f) 26)]) (fun s => [(3, .pointer (some ⟨b3, 0, none⟩)), (4, .pointer (some ⟨b4, 0, none⟩)), (11, u64 (setF f)), (12, u64 (setF g)), (18, .int .i64 k), (19, .bool false), (20, .pointer (some ⟨s.1, 0, none⟩)), (21, .pointer (some ⟨s.2, 0, none⟩))]) ?_ ?_
            · skip
              refine GC.draw T.mixed rfl ([(3, box b3 (flc f) 26)]) ?_
              refine GA.take 0 rfl (by kernel_rfl) (by kernel_rfl) (by kernel_rfl) rfl (Yl.loadAll 3 rfl T.ag26 (flc_size f) rfl) rfl (HSub.cons rfl (HSub.nil _)) ?_
              refine GA.take 1 rfl (by kernel_rfl) (by kernel_rfl) (by kernel_rfl) rfl (Yl.loadAll 3 rfl T.ag26 (flc_size f) rfl) rfl (HSub.cons rfl (HSub.nil _)) ?_
              refine GQ.two 2 3 (by kernel_rfl) rfl rfl rfl rfl ?_ ?_
              · skip
                refine GO.alloc 20 T.zr26 rfl ?_
                intro b20 hb20
                refine GK.any (HSub.cons rfl (HSub.nil _)) ?_
                refine GQ.one 3 (by kernel_rfl) rfl rfl ?_
                refine GO.alloc 21 T.zr26 rfl ?_
                intro b21 hb21
                refine GK.any (HSub.cons rfl (HSub.nil _)) ?_
                refine GA.take 4 rfl (by kernel_rfl) (by kernel_rfl) (by kernel_rfl) rfl (Yl.assign rfl) rfl (HSub.cons rfl (HSub.nil _)) ?_
                refine GQ.one 5 (by kernel_rfl) rfl rfl ?_
                refine GO.storeAll 20 rfl T.sz26 rfl rfl (flc_size f) (show (Array.replicate 64 (Value.bool false)).size = 64 from Array.size_replicate) (flc_cell f) rfl ?_
                refine GK.any (HSub.cons rfl (HSub.nil _)) ?_
                refine GQ.one 6 (by kernel_rfl) rfl rfl ?_
                refine GO.storeAll 21 rfl T.sz26 rfl rfl (flc_size f) (show (Array.replicate 64 (Value.bool false)).size = 64 from Array.size_replicate) (flc_cell f) rfl ?_
                refine GK.any (HSub.cons rfl (HSub.nil _)) ?_
                refine GQ.done (by kernel_rfl) ?_
                refine GE.met ((b20, b21)) trivial ?_ ?_
                · exact (Sub.cons rfl (Sub.cons rfl (Sub.cons rfl (Sub.cons rfl (Sub.cons rfl (Sub.cons rfl (Sub.cons rfl (Sub.cons rfl (Sub.nil _)))))))))
                · exact (HSub.cons rfl (HSub.cons rfl (HSub.cons rfl (HSub.cons rfl (HSub.nil _)))))
              · skip
                refine GO.alloc 21 T.zr26 rfl ?_
                intro b21 hb21
                refine GK.any (HSub.cons rfl (HSub.nil _)) ?_
                refine GQ.one 2 (by kernel_rfl) rfl rfl ?_
                refine GO.alloc 20 T.zr26 rfl ?_
                intro b20 hb20
                refine GK.any (HSub.cons rfl (HSub.nil _)) ?_
                refine GA.take 4 rfl (by kernel_rfl) (by kernel_rfl) (by kernel_rfl) rfl (Yl.assign rfl) rfl (HSub.cons rfl (HSub.nil _)) ?_
                refine GQ.one 5 (by kernel_rfl) rfl rfl ?_
                refine GO.storeAll 20 rfl T.sz26 rfl rfl (flc_size f) (show (Array.replicate 64 (Value.bool false)).size = 64 from Array.size_replicate) (flc_cell f) rfl ?_
                refine GK.any (HSub.cons rfl (HSub.nil _)) ?_
                refine GQ.one 6 (by kernel_rfl) rfl rfl ?_
                refine GO.storeAll 21 rfl T.sz26 rfl rfl (flc_size f) (show (Array.replicate 64 (Value.bool false)).size = 64 from Array.size_replicate) (flc_cell f) rfl ?_
                refine GK.any (HSub.cons rfl (HSub.nil _)) ?_
                refine GQ.done (by kernel_rfl) ?_
                refine GE.met ((b20, b21)) trivial ?_ ?_
                · exact (Sub.cons rfl (Sub.cons rfl (Sub.cons rfl (Sub.cons rfl (Sub.cons rfl (Sub.cons rfl (Sub.cons rfl (Sub.cons rfl (Sub.nil _)))))))))
                · exact (HSub.cons rfl (HSub.cons rfl (HSub.cons rfl (HSub.cons rfl (HSub.nil _)))))
            · skip
              rintro ⟨b20, b21⟩ _
              refine GE.then_n ?_
              refine GC.seq ?_
              refine GC.seq ?_
              refine GC.join (σ := Unit) (fun s => True) (fun s => [(3, box b3 (flc f) 26), (4, box b4 (flc g) 26), (20, box b20 (flc f) 26), (21, box b21 (flc f) 26)]) (fun s => [(3, .pointer (some ⟨b3, 0, none⟩)), (4, .pointer (some ⟨b4, 0, none⟩)), (11, u64 (setF f)), (12, u64 (setF g)), (18, .int .i64 k), (19, .bool false), (20, .pointer (some ⟨b20, 0, none⟩)), (21, .pointer (some ⟨b21, 0, none⟩)), (186, .bool (decide (0 ≤ k ∧ k < 64)))]) ?_ ?_
              · skip
                refine GC.region rfl ?_
                refine GL.yl (Yl.move rfl) rfl ?_
                refine GL.yl (Yl.geq rfl rfl) rfl ?_
                refine GL.yl (Yl.move rfl) rfl ?_
                refine GL.bothd 183 rfl (fun hk0 => ?_) (fun hk0 => ?_)
                · skip
                  refine GL.want rfl ?_
                  refine GL.yl (Yl.move rfl) rfl ?_
                  refine GL.want rfl ?_
                  refine GL.yl (Yl.lss rfl rfl) rfl ?_
                  refine GL.yl (Yl.pick_t rfl rfl) rfl ?_
                  refine GL.nil ?_
                  refine GE.met (()) trivial ?_ ?_
                  · exact (Sub.cons rfl (Sub.cons rfl (Sub.cons rfl (Sub.cons rfl (Sub.cons rfl (Sub.cons rfl (Sub.cons rfl (Sub.cons rfl (Sub.cons' rfl (congrArg Value.bool (decide_eq_decide.2 (by omega))) (Sub.nil _))))))))))
                  · exact (HSub.cons rfl (HSub.cons rfl (HSub.cons rfl (HSub.cons rfl (HSub.nil _)))))
                · skip
                  refine GL.skip rfl rfl ?_
                  refine GL.skip rfl rfl ?_
                  refine GL.yl (Yl.pick_f rfl rfl) rfl ?_
                  refine GL.nil ?_
                  refine GE.met (()) trivial ?_ ?_
                  · exact (Sub.cons rfl (Sub.cons rfl (Sub.cons rfl (Sub.cons rfl (Sub.cons rfl (Sub.cons rfl (Sub.cons rfl (Sub.cons rfl (Sub.cons' rfl (congrArg Value.bool (decide_eq_false (by omega)).symm) (Sub.nil _))))))))))
                  · exact (HSub.cons rfl (HSub.cons rfl (HSub.cons rfl (HSub.cons rfl (HSub.nil _)))))
              · skip
                intro _ _
                refine GE.then_n ?_
                refine GC.join (σ := Bool × (Nat → Bool) × (Nat → Bool)) (fun s => s.1 = decide (setF f &&& bit k ≠ 0#64) ∧ setF f ||| bit k = setF s.2.1 ∧ setF f &&& ~~~bit k = setF s.2.2) (fun s => [(3, box b3 (flc f) 26), (4, box b4 (flc g) 26), (20, box b20 (flc s.2.1) 26), (21, box b21 (flc s.2.2) 26)]) (fun s => [(3, .pointer (some ⟨b3, 0, none⟩)), (4, .pointer (some ⟨b4, 0, none⟩)), (11, u64 (setF f)), (12, u64 (setF g)), (18, .int .i64 k), (19, .bool s.1), (20, .pointer (some ⟨b20, 0, none⟩)), (21, .pointer (some ⟨b21, 0, none⟩))]) ?_ ?_
                · skip
                  refine GC.cond_d rfl (fun hin => ?_) (fun hin => ?_)
                  · skip
                    refine GC.region rfl ?_
                    refine GL.yl (Yl.move rfl) rfl ?_
                    refine GL.yl (Yl.move rfl) rfl ?_
                    refine GL.yl (Yl.move rfl) rfl ?_
                    refine GL.yl (Yl.indexArr Tryd.underlying26 T.sz4 rfl rfl (by omega) (by omega)) rfl ?_
                    refine GL.yl (Yl.load 3 rfl T.sc4 rfl (flc_at f (by omega) (by omega))) rfl ?_
                    refine GL.yl (Yl.assign rfl) rfl ?_
                    refine GL.yl (Yl.indexArr Tryd.underlying26 T.sz4 rfl rfl (by omega) (by omega)) rfl ?_
                    refine GL.op ?_
                    refine GO.store 20 rfl T.sz4 rfl rfl rfl (by rw [flc_size]; omega) rfl ?_
                    refine GK.list ?_
                    refine GL.yl (Yl.indexArr Tryd.underlying26 T.sz4 rfl rfl (by omega) (by omega)) rfl ?_
                    refine GL.op ?_
                    refine GO.store 21 rfl T.sz4 rfl rfl rfl (by rw [flc_size]; omega) rfl ?_
                    refine GK.list ?_
                    refine GL.nil ?_
                    refine GE.met ((f k.toNat, put f k.toNat true, put f k.toNat false)) ⟨(has_flags f hin.1 hin.2).symm, with_flags f hin.1 hin.2, without_flags f hin.1 hin.2⟩ ?_ ?_
                    · exact (Sub.cons rfl (Sub.cons rfl (Sub.cons rfl (Sub.cons rfl (Sub.cons rfl (Sub.cons rfl (Sub.cons rfl (Sub.cons rfl (Sub.nil _)))))))))
                    · exact (HSub.cons rfl (HSub.cons rfl (HSub.cons' rfl ((congrArg (fun cs => box b20 cs 26) (flc_put f true hin.1 hin.2))) (HSub.cons' rfl ((congrArg (fun cs => box b21 cs 26) (flc_put f false hin.1 hin.2))) (HSub.nil _)))))
                  · skip
                    refine GC.skip ?_
                    refine GE.met ((false, f, f)) ⟨(has_out _ hin).symm, with_out _ hin, without_out _ hin⟩ ?_ ?_
                    · exact (Sub.cons rfl (Sub.cons rfl (Sub.cons rfl (Sub.cons rfl (Sub.cons rfl (Sub.cons rfl (Sub.cons rfl (Sub.cons rfl (Sub.nil _)))))))))
                    · exact (HSub.cons rfl (HSub.cons rfl (HSub.cons rfl (HSub.cons rfl (HSub.nil _)))))
                · skip
                  rintro ⟨hb, f1, f2⟩ ⟨hJ1, hJ2, hJ3⟩
                  replace hJ1 : hb = decide (setF f &&& bit k ≠ 0#64) := hJ1
                  replace hJ2 : setF f ||| bit k = setF f1 := hJ2
                  replace hJ3 : setF f &&& ~~~bit k = setF f2 := hJ3
                  refine GE.then_n ?_
                  refine GC.seq ?_
                  refine GC.region rfl ?_
                  refine GL.op ?_
                  refine GO.alloc 22 T.zr26 rfl ?_
                  intro b22 hb22
                  refine GK.list ?_
                  refine GL.nil ?_
                  refine GE.then_n ?_
                  refine GC.seq ?_
                  refine GC.seq ?_
                  refine GC.region rfl ?_
                  refine GL.yl (Yl.move rfl) rfl ?_
                  refine GL.yl (Yl.imax rfl rfl) rfl ?_
                  refine GL.yl (Yl.imin rfl rfl) rfl ?_
                  refine GL.re 196 rfl (congrArg (Value.int .i64) hm.symm) ?_
                  refine GL.yl (Yl.move rfl) rfl ?_
                  refine GL.nil ?_
                  refine GE.then_n ?_
                  refine GC.block ?_
                  refine GC.loop (σ := Nat) (fun s => s ≤ m) (fun s => m - s) (fun s => [(3, box b3 (flc f) 26), (4, box b4 (flc g) 26), (20, box b20 (flc f1) 26), (21, box b21 (flc f2) 26), (22, box b22 (flc (fun i => decide (i < s))) 26)]) (fun s => [(3, .pointer (some ⟨b3, 0, none⟩)), (4, .pointer (some ⟨b4, 0, none⟩)), (11, u64 (setF f)), (12, u64 (setF g)), (18, .int .i64 k), (19, .bool hb), (20, .pointer (some ⟨b20, 0, none⟩)), (21, .pointer (some ⟨b21, 0, none⟩)), (22, .pointer (some ⟨b22, 0, none⟩)), (196, .int .i64 m), (197, .int .i64 s)]) (0) ?_ ?_ ?_ ?_
                  · exact Nat.zero_le _
                  · exact (Sub.cons rfl (Sub.cons rfl (Sub.cons rfl (Sub.cons rfl (Sub.cons rfl (Sub.cons rfl (Sub.cons rfl (Sub.cons rfl (Sub.cons rfl (Sub.cons rfl (Sub.cons rfl (Sub.nil _))))))))))))
                  · exact (HSub.cons rfl (HSub.cons rfl (HSub.cons rfl (HSub.cons rfl (HSub.cons' rfl ((congrArg (fun cs => box b22 cs 26) (flc_first))) (HSub.nil _))))))
                  · skip
                    intro s hs
                    refine GC.seq ?_
                    refine GC.region rfl ?_
                    refine GL.yl (Yl.lss rfl rfl) rfl ?_
                    refine GL.nil ?_
                    refine GE.then_n ?_
                    refine GC.seq ?_
                    refine GC.cond_d rfl (fun hc => ?_) (fun hc => ?_)
                    · skip
                      refine GC.skip ?_
                      refine GE.then_n ?_
                      refine GC.seq ?_
                      refine GC.block ?_
                      refine GC.seq ?_
                      refine GC.region rfl ?_
                      refine GL.yl (Yl.move rfl) rfl ?_
                      refine GL.yl (Yl.assign rfl) rfl ?_
                      refine GL.nil ?_
                      refine GE.then_n ?_
                      refine GC.region rfl ?_
                      refine GL.yl (Yl.move rfl) rfl ?_
                      refine GL.yl (Yl.indexArr Tryd.underlying26 T.sz4 rfl rfl (by omega) (by omega)) rfl ?_
                      refine GL.op ?_
                      refine GO.store 22 rfl T.sz4 rfl rfl rfl (by rw [flc_size]; omega) rfl ?_
                      refine GK.list ?_
                      refine GL.nil ?_
                      refine GE.in_n ?_
                      refine GE.then_n ?_
                      refine GC.region rfl ?_
                      refine GL.yl (Yl.add rfl rfl (by omega) (by omega)) rfl ?_
                      refine GL.yl (Yl.move rfl) rfl ?_
                      refine GL.nil ?_
                      refine GE.again (s + 1) (by omega) (by omega) ?_ ?_
                      · exact (Sub.cons rfl (Sub.cons rfl (Sub.cons rfl (Sub.cons rfl (Sub.cons rfl (Sub.cons rfl (Sub.cons rfl (Sub.cons rfl (Sub.cons rfl (Sub.cons rfl (Sub.cons rfl (Sub.nil _))))))))))))
                      · exact (HSub.cons rfl (HSub.cons rfl (HSub.cons rfl (HSub.cons rfl (HSub.cons' rfl ((congrArg (fun cs => box b22 cs 26) (flc_lt))) (HSub.nil _))))))
                    · skip
                      have e : s = m := by omega
                      subst e
                      refine GC.exit ?_
                      refine GE.then_exit ?_
                      refine GE.then_exit ?_
                      refine GE.in_hit ?_
                      refine GE.then_n ?_
                      refine GC.seq ?_
                      refine GC.draw T.mixed rfl ([(20, box b20 (flc f1) 26), (21, box b21 (flc f2) 26), (22, box b22 (flc (fun i => decide (i < s))) 26)]) ?_
                      refine GA.take 0 rfl (by kernel_rfl) (by kernel_rfl) (by kernel_rfl) rfl (Yl.move rfl) rfl (HSub.cons rfl (HSub.cons rfl (HSub.cons rfl (HSub.nil _)))) ?_
                      refine GA.take 1 rfl (by kernel_rfl) (by kernel_rfl) (by kernel_rfl) rfl (Yl.move rfl) rfl (HSub.cons rfl (HSub.cons rfl (HSub.cons rfl (HSub.nil _)))) ?_
                      refine GA.take 3 rfl (by kernel_rfl) (by kernel_rfl) (by kernel_rfl) rfl (Yl.move rfl) rfl (HSub.cons rfl (HSub.cons rfl (HSub.cons rfl (HSub.nil _)))) ?_
                      refine GQ.one 2 (by kernel_rfl) rfl rfl ?_
                      refine GO.callv _ T.en17 rfl rfl (fun w hw => has_calls _ k w) ?_
                      refine GK.any (HSub.cons rfl (HSub.cons rfl (HSub.cons rfl (HSub.nil _)))) ?_
                      refine GA.take 4 rfl (by kernel_rfl) (by kernel_rfl) (by kernel_rfl) rfl (Yl.bneq Tryd.underlying4 rfl rfl) rfl (HSub.cons rfl (HSub.cons rfl (HSub.cons rfl (HSub.nil _)))) ?_
                      refine GA.take 5 rfl (by kernel_rfl) (by kernel_rfl) (by kernel_rfl) rfl (Yl.move rfl) rfl (HSub.cons rfl (HSub.cons rfl (HSub.cons rfl (HSub.nil _)))) ?_
                      refine GQ.re (v' := .bool false) 208 rfl (congrArg Value.bool (by rw [hJ1] <;> simp)) ?_
                      refine GA.take 6 rfl (by kernel_rfl) (by kernel_rfl) (by kernel_rfl) rfl (Yl.move rfl) rfl (HSub.cons rfl (HSub.cons rfl (HSub.cons rfl (HSub.nil _)))) ?_
                      refine GA.take 7 rfl (by kernel_rfl) (by kernel_rfl) (by kernel_rfl) rfl (Yl.move rfl) rfl (HSub.cons rfl (HSub.cons rfl (HSub.cons rfl (HSub.nil _)))) ?_
                      refine GA.take 9 rfl (by kernel_rfl) (by kernel_rfl) (by kernel_rfl) rfl (Yl.loadAll 20 rfl T.ag26 (flc_size f1) rfl) rfl (HSub.cons rfl (HSub.cons rfl (HSub.cons rfl (HSub.nil _)))) ?_
                      refine GQ.one 8 (by kernel_rfl) rfl rfl ?_
                      refine GO.callv _ T.en18 rfl rfl (fun w hw => with_calls _ k w) ?_
                      refine GK.any (HSub.cons rfl (HSub.cons rfl (HSub.cons rfl (HSub.nil _)))) ?_
                      refine GQ.one 10 (by kernel_rfl) rfl rfl ?_
                      refine GO.callv _ T.en11 rfl rfl (fun w hw => set_calls f1 w) ?_
                      refine GK.any (HSub.cons rfl (HSub.cons rfl (HSub.cons rfl (HSub.nil _)))) ?_
                      refine GA.take 11 rfl (by kernel_rfl) (by kernel_rfl) (by kernel_rfl) rfl (Yl.uneq rfl rfl) rfl (HSub.cons rfl (HSub.cons rfl (HSub.cons rfl (HSub.nil _)))) ?_
                      refine GA.take 12 rfl (by kernel_rfl) (by kernel_rfl) (by kernel_rfl) rfl (Yl.pick_f rfl rfl) rfl (HSub.cons rfl (HSub.cons rfl (HSub.cons rfl (HSub.nil _)))) ?_
                      refine GA.take 13 rfl (by kernel_rfl) (by kernel_rfl) (by kernel_rfl) rfl (Yl.move rfl) rfl (HSub.cons rfl (HSub.cons rfl (HSub.cons rfl (HSub.nil _)))) ?_
                      refine GQ.re (v' := .bool false) 216 rfl (congrArg Value.bool (decide_eq_false (not_not_intro hJ2))) ?_
                      refine GA.take 14 rfl (by kernel_rfl) (by kernel_rfl) (by kernel_rfl) rfl (Yl.move rfl) rfl (HSub.cons rfl (HSub.cons rfl (HSub.cons rfl (HSub.nil _)))) ?_
                      refine GA.take 15 rfl (by kernel_rfl) (by kernel_rfl) (by kernel_rfl) rfl (Yl.move rfl) rfl (HSub.cons rfl (HSub.cons rfl (HSub.cons rfl (HSub.nil _)))) ?_
                      refine GA.take 17 rfl (by kernel_rfl) (by kernel_rfl) (by kernel_rfl) rfl (Yl.loadAll 21 rfl T.ag26 (flc_size f2) rfl) rfl (HSub.cons rfl (HSub.cons rfl (HSub.cons rfl (HSub.nil _)))) ?_
                      refine GQ.one 16 (by kernel_rfl) rfl rfl ?_
                      refine GO.callv _ T.en19 rfl rfl (fun w hw => without_calls _ k w) ?_
                      refine GK.any (HSub.cons rfl (HSub.cons rfl (HSub.cons rfl (HSub.nil _)))) ?_
                      refine GQ.one 18 (by kernel_rfl) rfl rfl ?_
                      refine GO.callv _ T.en11 rfl rfl (fun w hw => set_calls f2 w) ?_
                      refine GK.any (HSub.cons rfl (HSub.cons rfl (HSub.cons rfl (HSub.nil _)))) ?_
                      refine GA.take 19 rfl (by kernel_rfl) (by kernel_rfl) (by kernel_rfl) rfl (Yl.uneq rfl rfl) rfl (HSub.cons rfl (HSub.cons rfl (HSub.cons rfl (HSub.nil _)))) ?_
                      refine GA.take 20 rfl (by kernel_rfl) (by kernel_rfl) (by kernel_rfl) rfl (Yl.pick_f rfl rfl) rfl (HSub.cons rfl (HSub.cons rfl (HSub.cons rfl (HSub.nil _)))) ?_
                      refine GA.take 21 rfl (by kernel_rfl) (by kernel_rfl) (by kernel_rfl) rfl (Yl.move rfl) rfl (HSub.cons rfl (HSub.cons rfl (HSub.cons rfl (HSub.nil _)))) ?_
                      refine GQ.re (v' := .bool false) 224 rfl (congrArg Value.bool (decide_eq_false (not_not_intro hJ3))) ?_
                      refine GA.take 22 rfl (by kernel_rfl) (by kernel_rfl) (by kernel_rfl) rfl (Yl.move rfl) rfl (HSub.cons rfl (HSub.cons rfl (HSub.cons rfl (HSub.nil _)))) ?_
                      refine GA.take 24 rfl (by kernel_rfl) (by kernel_rfl) (by kernel_rfl) rfl (Yl.loadAll 22 rfl T.ag26 (flc_size (fun i => decide (i < s))) rfl) rfl (HSub.cons rfl (HSub.cons rfl (HSub.cons rfl (HSub.nil _)))) ?_
                      refine GQ.one 23 (by kernel_rfl) rfl rfl ?_
                      refine GO.callv _ T.en20 rfl rfl (fun w hw => full_calls k w) ?_
                      refine GK.any (HSub.cons rfl (HSub.cons rfl (HSub.cons rfl (HSub.nil _)))) ?_
                      refine GQ.one 25 (by kernel_rfl) rfl rfl ?_
                      refine GO.callv _ T.en11 rfl rfl (fun w hw => set_calls (fun i => decide (i < s)) w) ?_
                      refine GK.any (HSub.cons rfl (HSub.cons rfl (HSub.cons rfl (HSub.nil _)))) ?_
                      refine GA.take 26 rfl (by kernel_rfl) (by kernel_rfl) (by kernel_rfl) rfl (Yl.uneq rfl rfl) rfl (HSub.cons rfl (HSub.cons rfl (HSub.cons rfl (HSub.nil _)))) ?_
                      refine GA.take 27 rfl (by kernel_rfl) (by kernel_rfl) (by kernel_rfl) rfl (Yl.pick_f rfl rfl) rfl (HSub.cons rfl (HSub.cons rfl (HSub.cons rfl (HSub.nil _)))) ?_
                      refine GQ.done (by kernel_rfl) ?_
                      refine GE.then_n ?_
                      refine GC.re (v' := .bool false) 230 rfl (congrArg Value.bool (decide_eq_false (not_not_intro (full_flags k hm)))) ?_
                      refine GC.cond_ff rfl ?_
                      refine GC.skip ?_
                      refine GE.in_n ?_
                      refine GE.then_n ?_
                      refine GC.region rfl ?_
                      refine GL.yl (Yl.move rfl) rfl ?_
                      refine GL.yl (Yl.add rfl rfl (by omega) (by omega)) rfl ?_
                      refine GL.yl (Yl.assign rfl) rfl ?_
                      refine GL.nil ?_
                      refine GE.again (k + 1) ⟨by omega, by omega⟩ (by omega) ?_ ?_
                      · exact (Sub.cons rfl (Sub.cons rfl (Sub.cons rfl (Sub.cons rfl (Sub.cons rfl (Sub.nil _))))))
                      · exact HSub.cons rfl (HSub.cons rfl (HSub.nil _))
          · skip
            refine GC.exit ?_
            refine GE.then_exit ?_
            refine GE.then_exit ?_
            refine GE.in_hit ?_
            refine GE.then_n ?_
            refine GC.seq ?_
            refine GC.region rfl ?_
            refine GL.yl (Yl.loadAll 3 rfl T.ag26 (flc_size f) rfl) rfl ?_
            refine GL.op ?_
            refine GO.calln 52 (fun v : Value => v) (fun v => row v 3 1 (numsF f).length ((numsF f).map ivN)) (fun _ => True) T.en12 rfl rfl (fun w hw => fnumbers_calls f w) ?_
            intro v52 _
            refine GK.shape 52 rfl ?_
            intro p52 c52 hv52 hc52 hn52 hp52
            subst hv52
            refine GK.list ?_
            refine GL.yl (Yl.assign rfl) rfl ?_
            refine GL.nil ?_
            refine GE.then_n ?_
            refine GC.seq ?_
            refine GC.region rfl ?_
            refine GL.yl (Yl.move rfl) rfl ?_
            refine GL.op ?_
            refine GO.callv _ T.en21 rfl rfl (fun w hw => least_calls _ w (own_tab hw rfl hT)) ?_
            refine GK.list ?_
            refine GL.yl (Yl.move rfl) rfl ?_
            refine GL.yl (Yl.extract rfl rfl) rfl ?_
            refine GL.yl (Yl.extract rfl rfl) rfl ?_
            refine GL.yl (Yl.assign rfl) rfl ?_
            refine GL.yl (Yl.assign rfl) rfl ?_
            refine GL.nil ?_
            refine GE.then_n ?_
            refine GC.seq ?_
            refine GC.seq ?_
            refine GC.join (σ := Unit) (fun s => True) (fun s => [(3, box b3 (flc f) 26), (4, box b4 (flc g) 26), (52, row (.slice p52 (numsF f).length c52) 3 1 (numsF f).length ((numsF f).map ivN))]) (fun s => [(3, .pointer (some ⟨b3, 0, none⟩)), (4, .pointer (some ⟨b4, 0, none⟩)), (11, u64 (setF f)), (12, u64 (setF g)), (24, .slice p52 (numsF f).length c52), (274, .bool false)]) ?_ ?_
            · skip
              refine GC.region rfl ?_
              refine GL.yl (Yl.move rfl) rfl ?_
              refine GL.op ?_
              refine GO.callv _ T.en22 rfl rfl (fun w hw => len_calls _ w) ?_
              refine GK.list ?_
              refine GL.yl (Yl.move rfl) rfl ?_
              refine GL.yl (Yl.len 3 Tryd.underlying27 rfl) rfl ?_
              refine GL.yl (Yl.neq rfl rfl) rfl ?_
              refine GL.yl (Yl.move rfl) rfl ?_
              refine GL.re (v' := .bool false) 243 rfl (congrArg Value.bool (decide_eq_false (not_not_intro (by rw [nums_setF])))) ?_
              refine GL.want rfl ?_
              refine GL.yl (Yl.move rfl) rfl ?_
              refine GL.want rfl ?_
              refine GL.op ?_
              refine GO.calln 53 (fun v : Value => v) (fun v => row v 3 1 (nums (setF f)).length ((nums (setF f)).map ivN)) (fun _ => True) T.en24 rfl rfl (fun w hw => numbers_calls _ w (own_tab hw rfl hT)) ?_
              intro v53 _
              refine GK.list ?_
              refine GL.want rfl ?_
              refine GL.yl (Yl.move rfl) rfl ?_
              refine GL.want rfl ?_
              refine GL.op ?_
              refine GO.callv _ T.en23 rfl rfl (fun w hw => equal_calls _ _ (natI (nums (setF f))) (natI (numsF f)) w (by have := hw.rowSl (k := 53) rfl; rw [show (natI (nums (setF f))).map iv = _ from natI_map _]; exact this) (by have := hw.rowSl (k := 52) rfl; rw [show (natI (numsF f)).map iv = _ from natI_map _]; exact this) (by unfold natI; rw [List.length_map]; have := nums_len (setF f); omega) (by unfold natI; rw [List.length_map]; omega)) ?_
              refine GK.list ?_
              refine GL.want rfl ?_
              refine GL.yl (Yl.not rfl) rfl ?_
              refine GL.yl (Yl.pick_f rfl rfl) rfl ?_
              refine GL.yl (Yl.move rfl) rfl ?_
              refine GL.re (v' := .bool false) 250 rfl (congrArg Value.bool (by rw [nums_setF] <;> simp)) ?_
              refine GL.want rfl ?_
              refine GL.yl (Yl.move rfl) rfl ?_
              refine GL.want rfl ?_
              refine GL.yl (Yl.move rfl) rfl ?_
              refine GL.want rfl ?_
              refine GL.yl (Yl.len 3 Tryd.underlying27 rfl) rfl ?_
              refine GL.want rfl ?_
              refine GL.yl (Yl.gtr rfl rfl) rfl ?_
              refine GL.want rfl ?_
              refine GL.yl (Yl.bneq Tryd.underlying4 rfl rfl) rfl ?_
              refine GL.yl (Yl.pick_f rfl rfl) rfl ?_
              refine GL.yl (Yl.move rfl) rfl ?_
              refine GL.re (v' := .bool false) 257 rfl (congrArg Value.bool (by rw [is_len] <;> simp)) ?_
              refine GL.want rfl ?_
              refine GL.yl (Yl.move rfl) rfl ?_
              refine GL.want rfl ?_
              refine GL.yl (Yl.move rfl) rfl ?_
              refine GL.bothd 259 rfl (fun his => ?_) (fun his => ?_)
              · skip
                have hlen0 : 0 < (numsF f).length := by
                  have := is_len f
                  rw [decide_eq_true his, eq_comm, decide_eq_true_iff] at this
                  omega
                obtain ⟨g52, rfl⟩ := hp52 hlen0
                have hl0 := least_flags his
                refine GL.want rfl ?_
                refine GL.yl (Yl.move rfl) rfl ?_
                refine GL.want rfl ?_
                refine GL.yl (Yl.move rfl) rfl ?_
                refine GL.want rfl ?_
                refine GL.yl (Yl.indexSl (i := 0) Tryd.underlying27 T.sz3 rfl rfl (by omega) (by omega)) rfl ?_
                refine GL.want rfl ?_
                refine GL.yl (Yl.loadRow 52 (v := ivN (Lib.ctz 64 (setF f).toNat)) rfl T.sc3 rfl (by simp [hl0])) rfl ?_
                refine GL.want rfl ?_
                refine GL.yl (Yl.neq rfl rfl) rfl ?_
                refine GL.want rfl ?_
                refine GL.yl (Yl.pick_t rfl rfl) rfl ?_
                refine GL.yl (Yl.pick_f rfl rfl) rfl ?_
                refine GL.yl (Yl.move rfl) rfl ?_
                refine GL.re (v' := .bool false) 267 rfl (congrArg Value.bool (decide_eq_false (not_not_intro (if_neg his)))) ?_
                refine GL.want rfl ?_
                refine GL.yl (Yl.move rfl) rfl ?_
                refine GL.want rfl ?_
                refine GL.yl (Yl.not rfl) rfl ?_
                refine GL.want rfl ?_
                refine GL.yl (Yl.move rfl) rfl ?_
                refine GL.re (v' := .bool false) 270 rfl (congrArg Value.bool (by rw [decide_eq_true his]; rfl)) ?_
                refine GL.skip rfl rfl ?_
                refine GL.skip rfl rfl ?_
                refine GL.want rfl ?_
                refine GL.yl (Yl.pick_f rfl rfl) rfl ?_
                refine GL.yl (Yl.pick_f rfl rfl) rfl ?_
                refine GL.nil ?_
                refine GE.met (()) trivial ?_ ?_
                · exact (Sub.cons rfl (Sub.cons rfl (Sub.cons rfl (Sub.cons rfl (Sub.cons rfl (Sub.cons rfl (Sub.nil _)))))))
                · exact (HSub.cons rfl (HSub.cons rfl (HSub.cons rfl (HSub.nil _))))
              · skip
                have his0 : setF f = 0#64 := Classical.byContradiction his
                refine GL.skip rfl rfl ?_
                refine GL.skip rfl rfl ?_
                refine GL.skip rfl rfl ?_
                refine GL.skip rfl rfl ?_
                refine GL.skip rfl rfl ?_
                refine GL.want rfl ?_
                refine GL.yl (Yl.pick_f rfl rfl) rfl ?_
                refine GL.yl (Yl.pick_f rfl rfl) rfl ?_
                refine GL.yl (Yl.move rfl) rfl ?_
                refine GL.want rfl ?_
                refine GL.yl (Yl.move rfl) rfl ?_
                refine GL.want rfl ?_
                refine GL.yl (Yl.not rfl) rfl ?_
                refine GL.want rfl ?_
                refine GL.yl (Yl.move rfl) rfl ?_
                refine GL.re (v' := .bool true) 270 rfl (congrArg Value.bool (by rw [decide_eq_false his]; rfl)) ?_
                refine GL.want rfl ?_
                refine GL.yl (Yl.move rfl) rfl ?_
                refine GL.want rfl ?_
                refine GL.yl (Yl.neq rfl rfl) rfl ?_
                refine GL.want rfl ?_
                refine GL.yl (Yl.pick_t rfl rfl) rfl ?_
                refine GL.yl (Yl.pick_f rfl rfl) rfl ?_
                refine GL.re 274 rfl (congrArg Value.bool (decide_eq_false (not_not_intro (if_pos his0)))) ?_
                refine GL.nil ?_
                refine GE.met (()) trivial ?_ ?_
                · exact (Sub.cons rfl (Sub.cons rfl (Sub.cons rfl (Sub.cons rfl (Sub.cons rfl (Sub.cons rfl (Sub.nil _)))))))
                · exact (HSub.cons rfl (HSub.cons rfl (HSub.cons rfl (HSub.nil _))))
            · skip
              intro _ _
              refine GE.then_n ?_
              refine GC.re (v' := .bool false) 274 rfl (rfl) ?_
              refine GC.cond_ff rfl ?_
              refine GC.skip ?_
              refine GE.then_n ?_
              refine GC.seq ?_
              refine GC.seq ?_
              refine GC.region rfl ?_
              refine GL.yl (Yl.move rfl) rfl ?_
              refine GL.yl (Yl.len 3 Tryd.underlying27 rfl) rfl ?_
              refine GL.yl (Yl.add rfl rfl (by omega) (by omega)) rfl ?_
              refine GL.yl (Yl.move rfl) rfl ?_
              refine GL.nil ?_
              refine GE.then_n ?_
              refine GC.block ?_
              refine GC.loop (σ := Nat) (fun s => s ≤ (numsF f).length + 1) (fun s => (numsF f).length + 1 - s) (fun s => [(3, box b3 (flc f) 26), (4, box b4 (flc g) 26), (52, row (.slice p52 (numsF f).length c52) 3 1 (numsF f).length ((numsF f).map ivN))]) (fun s => [(3, .pointer (some ⟨b3, 0, none⟩)), (4, .pointer (some ⟨b4, 0, none⟩)), (11, u64 (setF f)), (12, u64 (setF g)), (24, .slice p52 (numsF f).length c52), (277, .int .i64 ((numsF f).length + 1)), (278, .int .i64 s)]) (0) ?_ ?_ ?_ ?_
              · exact Nat.zero_le _
              · exact (Sub.cons rfl (Sub.cons rfl (Sub.cons rfl (Sub.cons rfl (Sub.cons rfl (Sub.cons rfl (Sub.cons rfl (Sub.nil _))))))))
              · exact HSub.cons rfl (HSub.cons rfl (HSub.cons rfl (HSub.nil _)))
              · skip
                intro most hmost
                refine GC.seq ?_
                refine GC.region rfl ?_
                refine GL.yl (Yl.lss rfl rfl) rfl ?_
                refine GL.nil ?_
                refine GE.then_n ?_
                refine GC.seq ?_
                refine GC.cond_d rfl (fun hc => ?_) (fun hc => ?_)
                · skip
                  refine GC.skip ?_
                  refine GE.then_n ?_
                  refine GC.seq ?_
                  refine GC.block ?_
                  refine GC.seq ?_
                  refine GC.region rfl ?_
                  refine GL.yl (Yl.move rfl) rfl ?_
                  refine GL.op ?_
                  refine GO.alloc 27 T.zr3 rfl ?_
                  intro b27 hb27
                  refine GK.list ?_
                  refine GL.op ?_
                  refine GO.store 27 rfl T.sz3 rfl rfl rfl (by first | (simp; done) | (simp; omega) | decide) rfl ?_
                  refine GK.list ?_
                  refine GL.nil ?_
                  refine GE.then_n ?_
                  refine GC.seq ?_
                  refine GC.region rfl ?_
                  refine GL.op ?_
                  refine GO.alloc 28 T.zr27 rfl ?_
                  intro b28 hb28
                  refine GK.list ?_
                  refine GL.nil ?_
                  refine GE.then_n ?_
                  refine GC.seq ?_
                  refine GC.seq ?_
                  refine GC.region rfl ?_
                  refine GL.yl (Yl.move rfl) rfl ?_
                  refine GL.op ?_
                  refine GO.calln 40 (fun b : Nat => .func (.func 101) #[] #[.pointer (some ⟨b, 0, none⟩)]) (fun b => box b #[u64 (setF f)] 29) (fun _ => True) T.en25 rfl rfl (fun w hw => each_calls _ w) ?_
                  intro b40 _
                  refine GK.list ?_
                  refine GL.nil ?_
                  refine GE.then_n ?_
                  refine GC.join (σ := Value × List Nat) (fun s => s.2 = (numsF f).take most) (fun s => [(3, box b3 (flc f) 26), (4, box b4 (flc g) 26), (52, row (.slice p52 (numsF f).length c52) 3 1 (numsF f).length ((numsF f).map ivN)), (27, box b27 #[.int .i64 most] 3), (28, box b28 #[s.1] 27), (54, row s.1 3 1 s.2.length (s.2.map ivN))]) (fun s => [(3, .pointer (some ⟨b3, 0, none⟩)), (4, .pointer (some ⟨b4, 0, none⟩)), (11, u64 (setF f)), (12, u64 (setF g)), (24, .slice p52 (numsF f).length c52), (27, .pointer (some ⟨b27, 0, none⟩)), (28, .pointer (some ⟨b28, 0, none⟩)), (277, .int .i64 ((numsF f).length + 1)), (278, .int .i64 most)]) ?_ ?_
                  · skip
                    refine GC.block ?_
                    refine GC.nilrow 54 3 1 ?_
                    refine GC.range (σ := Value × List Nat) (τ := Value × List Nat) (ι := Unit) 40 rfl rfl rfl (each_own (setF f) b40) rfl (hT) (fun _ => rfl) rfl (fun pre s => s.2 = pre ∧ pre.length ≤ most) (fun s => [(3, box b3 (flc f) 26), (4, box b4 (flc g) 26), (52, row (.slice p52 (numsF f).length c52) 3 1 (numsF f).length ((numsF f).map ivN)), (27, box b27 #[.int .i64 most] 3), (28, box b28 #[s.1] 27), (54, row s.1 3 1 s.2.length (s.2.map ivN))]) (fun c pre s => c = .exit 12 ∧ s.2 = (nums (setF f)).take most) (fun s => [(3, box b3 (flc f) 26), (4, box b4 (flc g) 26), (52, row (.slice p52 (numsF f).length c52) 3 1 (numsF f).length ((numsF f).map ivN)), (27, box b27 #[.int .i64 most] 3), (28, box b28 #[s.1] 27), (54, row s.1 3 1 s.2.length (s.2.map ivN))]) ((.slice none 0 0, [])) (⟨rfl, Nat.zero_le _⟩) ((HSub.cons rfl (HSub.cons rfl (HSub.cons rfl (HSub.cons rfl (HSub.cons rfl (HSub.cons rfl (HSub.nil _)))))))) (fun _ => ⟨rfl, rfl⟩) (fun _ => ⟨rfl, rfl⟩) (fun _ _ _ => True) (fun x s i => [(3, box b3 (flc f) 26), (4, box b4 (flc g) 26), (52, row (.slice p52 (numsF f).length c52) 3 1 (numsF f).length ((numsF f).map ivN)), (27, box b27 #[.int .i64 most] 3), (28, box b28 #[s.1] 27), (54, row s.1 3 1 s.2.length (s.2.map ivN))]) (fun x s i => [(27, .pointer (some ⟨b27, 0, none⟩)), (28, .pointer (some ⟨b28, 0, none⟩)), (29, ivN x)]) ?_ ?_ ?_ ?_
                    · skip
                      intro Z l pre x s hpre hrel
                      skip
                      refine GC.region rfl ?_
                      refine GL.yl (Yl.assign rfl) rfl ?_
                      refine GL.nil ?_
                      refine GE.met (()) trivial ?_ ?_
                      · exact (Sub.cons rfl (Sub.cons rfl (Sub.cons rfl (Sub.nil _))))
                      · exact HSub.refl _
                    · skip
                      intro Z l pre x s i hpre hrel hJ
                      obtain ⟨v, l2⟩ := s
                      obtain ⟨hrel, hlen⟩ := hrel
                      replace hrel : l2 = pre := hrel
                      subst hrel
                      have hl2 := hpre.length_le
                      rw [List.length_append, List.length_singleton] at hl2
                      have hn64 := nums_len (setF f)
                      refine GC.know (fun ms w hw => by obtain ⟨S, _, hs⟩ := hw.get (k := 54) rfl; exact row_shape hs) ?_
                      rintro ⟨p, c, hvs, hc1, hn1, hp1⟩
                      replace hvs : v = .slice p l2.length c := hvs
                      subst hvs
                      refine GC.block ?_
                      refine GC.seq ?_
                      refine GC.seq ?_
                      refine GC.region rfl ?_
                      refine GL.yl (Yl.load 28 rfl T.sc27 rfl rfl) rfl ?_
                      refine GL.yl (Yl.len 3 Tryd.underlying27 rfl) rfl ?_
                      refine GL.yl (Yl.load 27 rfl T.sc3 rfl rfl) rfl ?_
                      refine GL.yl (Yl.eql rfl rfl) rfl ?_
                      refine GL.nil ?_
                      refine GE.then_n ?_
                      refine GC.cond_d rfl (fun hmo => ?_) (fun hmo => ?_)
                      · skip
                        replace hmo : l2.length = most := by omega
                        refine GC.exit ?_
                        refine GE.then_exit ?_
                        refine GE.in_miss rfl ?_
                        refine GE.round_exit ((.slice p l2.length c, l2)) ⟨rfl, by show l2 = _; rw [← hmo]; exact List.prefix_iff_eq_take.1 ((List.prefix_append l2 [x]).trans hpre)⟩ (HSub.refl _)
                      · skip
                        replace hmo : ¬ l2.length = most := by omega
                        refine GC.skip ?_
                        refine GE.then_n ?_
                        refine GC.region rfl ?_
                        refine GL.yl (Yl.load 28 rfl T.sc27 rfl rfl) rfl ?_
                        refine GL.yl (Yl.move rfl) rfl ?_
                        refine GL.op ?_
                        refine GO.buildSlice 290 Tryd.underlying27 T.zr3 T.sz3 rfl rfl rfl (sliceCells_one rfl rfl) rfl ?_
                        intro b290 hb290
                        refine GK.list ?_
                        refine GL.op ?_
                        refine GO.appendBox 54 290 rfl rfl Tryd.underlying27 T.zr3 T.sz3 T.by3 rfl (by decide) rfl rfl rfl (by intro u hu; simp at hu; subst hu; rfl) (by show l2.length + 1 ≤ _; omega) (by show (l2.length + 1) * 8 ≤ _; omega) (by decide) rfl ?_
                        intro g291 c291
                        refine GK.list ?_
                        refine GL.op ?_
                        refine GO.store 28 rfl T.sz27 rfl rfl rfl (by first | (simp; done) | (simp; omega) | decide) rfl ?_
                        refine GK.list ?_
                        refine GL.nil ?_
                        refine GE.in_n ?_
                        refine GE.round_n ((.slice (some ⟨g291, 0, none⟩) (l2.length + 1) c291, l2 ++ [x])) ⟨rfl, by rw [List.length_append, List.length_singleton]; omega⟩ (HSub.cons rfl (HSub.cons rfl (HSub.cons rfl (HSub.cons rfl (HSub.cons rfl (HSub.cons' rfl (by show row _ 3 1 (l2.length + 1) _ = row _ 3 1 (l2 ++ [x]).length _; rw [List.length_append, List.map_append]; rfl) (HSub.nil _)))))))
                    · skip
                      rintro ⟨v, l2⟩ ⟨hrel, hlen⟩
                      replace hrel : l2 = nums (setF f) := hrel
                      refine GE.in_n ?_
                      refine GE.met ((v, l2)) (by show l2 = _; rw [hrel, nums_setF]; exact (List.take_of_length_le (by rw [← nums_setF]; exact hlen)).symm) ?_ ?_
                      · exact (Sub.cons rfl (Sub.cons rfl (Sub.cons rfl (Sub.cons rfl (Sub.cons rfl (Sub.cons rfl (Sub.cons rfl (Sub.cons rfl (Sub.cons rfl (Sub.nil _))))))))))
                      · exact (HSub.cons rfl (HSub.cons rfl (HSub.cons rfl (HSub.cons rfl (HSub.cons rfl (HSub.cons rfl (HSub.nil _)))))))
                    · skip
                      intro c pre t hpre hout
                      obtain ⟨v, l2⟩ := t
                      obtain ⟨rfl, hs2⟩ := hout
                      replace hs2 : l2 = (nums (setF f)).take most := hs2
                      refine GC.exit ?_
                      refine GE.in_hit ?_
                      refine GE.met ((v, l2)) (by show l2 = _; rw [← nums_setF]; exact hs2) ?_ ?_
                      · exact (Sub.cons rfl (Sub.cons rfl (Sub.cons rfl (Sub.cons rfl (Sub.cons rfl (Sub.cons rfl (Sub.cons rfl (Sub.cons rfl (Sub.cons rfl (Sub.nil _))))))))))
                      · exact (HSub.cons rfl (HSub.cons rfl (HSub.cons rfl (HSub.cons rfl (HSub.cons rfl (HSub.cons rfl (HSub.nil _)))))))
                  · skip
                    rintro ⟨v, l2⟩ hl2
                    replace hl2 : l2 = (numsF f).take most := hl2
                    subst hl2
                    refine GE.then_n ?_
                    refine GC.seq ?_
                    have hmo1 : most ≤ (numsF f).length := by omega
                    refine GC.draw T.mixed rfl ([(27, box b27 #[.int .i64 most] 3), (28, box b28 #[v] 27)]) ?_
                    refine GA.take 0 rfl (by kernel_rfl) (by kernel_rfl) (by kernel_rfl) rfl (Yl.load 28 rfl T.sc27 rfl rfl) rfl (HSub.cons rfl (HSub.cons rfl (HSub.nil _))) ?_
                    refine GA.take 1 rfl (by kernel_rfl) (by kernel_rfl) (by kernel_rfl) rfl (Yl.move rfl) rfl (HSub.cons rfl (HSub.cons rfl (HSub.nil _))) ?_
                    refine GA.take 2 rfl (by kernel_rfl) (by kernel_rfl) (by kernel_rfl) rfl (Yl.load 27 rfl T.sc3 rfl rfl) rfl (HSub.cons rfl (HSub.cons rfl (HSub.nil _))) ?_
                    refine GA.take 3 rfl (by kernel_rfl) (by kernel_rfl) (by kernel_rfl) rfl (Yl.sliceTo Tryd.underlying27 T.sz3 rfl rfl (by omega) (by omega)) rfl (HSub.cons rfl (HSub.cons rfl (HSub.nil _))) ?_
                    refine GQ.one 4 (by kernel_rfl) rfl rfl ?_
                    refine GO.callv _ T.en23 rfl rfl (fun w hw => equal_calls _ _ (natI ((numsF f).take most)) (natI ((numsF f).take most)) w (by have := hw.rowSl (k := 54) rfl; rw [show (natI ((numsF f).take most)).map iv = _ from natI_map _]; exact this) (by have := (hw.rowSl (k := 52) rfl).take (m := most) (by rw [List.length_map]; omega); rw [show (natI ((numsF f).take most)).map iv = _ from natI_map _, List.map_take]; exact this) (by unfold natI; rw [List.length_map, List.length_take]; omega) (by unfold natI; rw [List.length_map, List.length_take]; omega)) ?_
                    refine GK.any (HSub.cons rfl (HSub.cons rfl (HSub.nil _))) ?_
                    refine GA.take 5 rfl (by kernel_rfl) (by kernel_rfl) (by kernel_rfl) rfl (Yl.not rfl) rfl (HSub.cons rfl (HSub.cons rfl (HSub.nil _))) ?_
                    refine GQ.done (by kernel_rfl) ?_
                    refine GE.then_n ?_
                    refine GC.re (v' := .bool false) 297 rfl (congrArg Value.bool (by simp)) ?_
                    refine GC.cond_ff rfl ?_
                    refine GC.skip ?_
                    refine GE.in_n ?_
                    refine GE.then_n ?_
                    refine GC.region rfl ?_
                    refine GL.yl (Yl.add rfl rfl (by omega) (by omega)) rfl ?_
                    refine GL.yl (Yl.move rfl) rfl ?_
                    refine GL.nil ?_
                    refine GE.again (most + 1) (by omega) (by omega) ?_ ?_
                    · exact (Sub.cons rfl (Sub.cons rfl (Sub.cons rfl (Sub.cons rfl (Sub.cons rfl (Sub.cons rfl (Sub.cons rfl (Sub.nil _))))))))
                    · exact (HSub.cons rfl (HSub.cons rfl (HSub.cons rfl (HSub.nil _))))
                · skip
                  refine GC.exit ?_
                  refine GE.then_exit ?_
                  refine GE.then_exit ?_
                  refine GE.in_hit ?_
                  refine GE.then_n ?_
                  refine GC.seq ?_
                  refine GC.region rfl ?_
                  refine GL.yl (Yl.assign rfl) rfl ?_
                  refine GL.nil ?_
                  refine GE.then_n ?_
                  refine GC.seq ?_
                  refine GC.seq ?_
                  refine GC.region rfl ?_
                  refine GL.yl (Yl.move rfl) rfl ?_
                  refine GL.nil ?_
                  refine GE.then_n ?_
                  refine GC.block ?_
                  refine GC.loop (σ := Nat) (fun s => s ≤ 64) (fun s => 64 - s) (fun s => [(3, box b3 (flc f) 26), (4, box b4 (flc g) 26)]) (fun s => [(3, .pointer (some ⟨b3, 0, none⟩)), (4, .pointer (some ⟨b4, 0, none⟩)), (11, u64 (setF f)), (12, u64 (setF g)), (30, .int .i64 (ordF f g s)), (299, .int .i64 s)]) (0) ?_ ?_ ?_ ?_
                  · exact Nat.zero_le _
                  · exact (Sub.cons rfl (Sub.cons rfl (Sub.cons rfl (Sub.cons rfl (Sub.cons' rfl (congrArg (Value.int .i64) (ord_zero f g).symm) (Sub.cons rfl (Sub.nil _)))))))
                  · exact HSub.cons rfl (HSub.cons rfl (HSub.nil _))
                  · skip
                    intro s hs
                    refine GC.seq ?_
                    refine GC.region rfl ?_
                    refine GL.yl (Yl.lss rfl rfl) rfl ?_
                    refine GL.nil ?_
                    refine GE.then_n ?_
                    refine GC.seq ?_
                    refine GC.cond_d rfl (fun hc => ?_) (fun hc => ?_)
                    · skip
                      replace hc : (s : Int) < 64 := hc
                      refine GC.skip ?_
                      refine GE.then_n ?_
                      refine GC.seq ?_
                      refine GC.block ?_
                      refine GC.seq ?_
                      refine GC.region rfl ?_
                      refine GL.yl (Yl.move rfl) rfl ?_
                      refine GL.yl (Yl.assign rfl) rfl ?_
                      refine GL.nil ?_
                      refine GE.then_n ?_
                      refine GC.seq ?_
                      refine GC.region rfl ?_
                      refine GL.yl (Yl.move rfl) rfl ?_
                      refine GL.yl (Yl.indexArr Tryd.underlying26 T.sz4 rfl rfl (by omega) (by omega)) rfl ?_
                      refine GL.yl (Yl.load 3 rfl T.sc4 rfl (flc_at f (by omega) (by omega))) rfl ?_
                      refine GL.yl (Yl.move rfl) rfl ?_
                      refine GL.both 305 rfl (fun hfs => ?_) (fun hfs => ?_)
                      · skip
                        replace hfs : f s = true := hfs
                        refine GL.want rfl ?_
                        refine GL.yl (Yl.move rfl) rfl ?_
                        refine GL.want rfl ?_
                        refine GL.yl (Yl.indexArr Tryd.underlying26 T.sz4 rfl rfl (by omega) (by omega)) rfl ?_
                        refine GL.want rfl ?_
                        refine GL.yl (Yl.load 4 rfl T.sc4 rfl (flc_at g (by omega) (by omega))) rfl ?_
                        refine GL.want rfl ?_
                        refine GL.yl (Yl.not rfl) rfl ?_
                        refine GL.yl (Yl.pick_t rfl rfl) rfl ?_
                        refine GL.nil ?_
                        refine GE.then_n ?_
                        refine GC.cond_b rfl (fun hgs => ?_) (fun hgs => ?_)
                        · skip
                          replace hgs : g s = false := by simpa using hgs
                          refine GC.region rfl ?_
                          refine GL.yl (Yl.assign rfl) rfl ?_
                          refine GL.nil ?_
                          refine GE.in_n ?_
                          refine GE.then_n ?_
                          refine GC.region rfl ?_
                          refine GL.yl (Yl.add rfl rfl (by omega) (by omega)) rfl ?_
                          refine GL.yl (Yl.move rfl) rfl ?_
                          refine GL.nil ?_
                          refine GE.again (s + 1) (by omega) (by omega) ?_ ?_
                          · exact (Sub.cons rfl (Sub.cons rfl (Sub.cons rfl (Sub.cons rfl (Sub.cons' rfl (congrArg (Value.int .i64) (by simp_all [ordF])) (Sub.cons rfl (Sub.nil _)))))))
                          · exact (HSub.cons rfl (HSub.cons rfl (HSub.nil _)))
                        · skip
                          replace hgs : g s = true := by simpa using hgs
                          refine GC.seq ?_
                          refine GC.region rfl ?_
                          refine GL.yl (Yl.move rfl) rfl ?_
                          refine GL.yl (Yl.indexArr Tryd.underlying26 T.sz4 rfl rfl (by omega) (by omega)) rfl ?_
                          refine GL.yl (Yl.load 4 rfl T.sc4 rfl (flc_at g (by omega) (by omega))) rfl ?_
                          refine GL.yl (Yl.move rfl) rfl ?_
                          refine GL.re (v' := .bool true) 314 rfl (congrArg Value.bool hgs) ?_
                          refine GL.want rfl ?_
                          refine GL.yl (Yl.move rfl) rfl ?_
                          refine GL.want rfl ?_
                          refine GL.yl (Yl.indexArr Tryd.underlying26 T.sz4 rfl rfl (by omega) (by omega)) rfl ?_
                          refine GL.want rfl ?_
                          refine GL.yl (Yl.load 3 rfl T.sc4 rfl (flc_at f (by omega) (by omega))) rfl ?_
                          refine GL.want rfl ?_
                          refine GL.yl (Yl.not rfl) rfl ?_
                          refine GL.yl (Yl.pick_t rfl rfl) rfl ?_
                          refine GL.nil ?_
                          refine GE.then_n ?_
                          refine GC.re (v' := .bool false) 319 rfl (congrArg Value.bool (by show (!f s) = _; rw [hfs]; rfl)) ?_
                          refine GC.cond_ff rfl ?_
                          refine GC.skip ?_
                          refine GE.in_n ?_
                          refine GE.then_n ?_
                          refine GC.region rfl ?_
                          refine GL.yl (Yl.add rfl rfl (by omega) (by omega)) rfl ?_
                          refine GL.yl (Yl.move rfl) rfl ?_
                          refine GL.nil ?_
                          refine GE.again (s + 1) (by omega) (by omega) ?_ ?_
                          · exact (Sub.cons rfl (Sub.cons rfl (Sub.cons rfl (Sub.cons rfl (Sub.cons' rfl (congrArg (Value.int .i64) (by simp_all [ordF])) (Sub.cons rfl (Sub.nil _)))))))
                          · exact (HSub.cons rfl (HSub.cons rfl (HSub.nil _)))
                      · skip
                        replace hfs : f s = false := hfs
                        refine GL.skip rfl rfl ?_
                        refine GL.skip rfl rfl ?_
                        refine GL.skip rfl rfl ?_
                        refine GL.skip rfl rfl ?_
                        refine GL.yl (Yl.pick_f rfl rfl) rfl ?_
                        refine GL.nil ?_
                        refine GE.then_n ?_
                        refine GC.cond_ff rfl ?_
                        refine GC.seq ?_
                        refine GC.region rfl ?_
                        refine GL.yl (Yl.move rfl) rfl ?_
                        refine GL.yl (Yl.indexArr Tryd.underlying26 T.sz4 rfl rfl (by omega) (by omega)) rfl ?_
                        refine GL.yl (Yl.load 4 rfl T.sc4 rfl (flc_at g (by omega) (by omega))) rfl ?_
                        refine GL.yl (Yl.move rfl) rfl ?_
                        refine GL.both 314 rfl (fun hgs => ?_) (fun hgs => ?_)
                        · skip
                          replace hgs : g s = true := hgs
                          refine GL.want rfl ?_
                          refine GL.yl (Yl.move rfl) rfl ?_
                          refine GL.want rfl ?_
                          refine GL.yl (Yl.indexArr Tryd.underlying26 T.sz4 rfl rfl (by omega) (by omega)) rfl ?_
                          refine GL.want rfl ?_
                          refine GL.yl (Yl.load 3 rfl T.sc4 rfl (flc_at f (by omega) (by omega))) rfl ?_
                          refine GL.want rfl ?_
                          refine GL.yl (Yl.not rfl) rfl ?_
                          refine GL.yl (Yl.pick_t rfl rfl) rfl ?_
                          refine GL.nil ?_
                          refine GE.then_n ?_
                          refine GC.re (v' := .bool true) 319 rfl (congrArg Value.bool (by show (!f s) = _; rw [hfs]; rfl)) ?_
                          refine GC.cond_tt rfl ?_
                          refine GC.region rfl ?_
                          refine GL.yl (Yl.assign rfl) rfl ?_
                          refine GL.nil ?_
                          refine GE.in_n ?_
                          refine GE.then_n ?_
                          refine GC.region rfl ?_
                          refine GL.yl (Yl.add rfl rfl (by omega) (by omega)) rfl ?_
                          refine GL.yl (Yl.move rfl) rfl ?_
                          refine GL.nil ?_
                          refine GE.again (s + 1) (by omega) (by omega) ?_ ?_
                          · exact (Sub.cons rfl (Sub.cons rfl (Sub.cons rfl (Sub.cons rfl (Sub.cons' rfl (congrArg (Value.int .i64) (by simp_all [ordF])) (Sub.cons rfl (Sub.nil _)))))))
                          · exact (HSub.cons rfl (HSub.cons rfl (HSub.nil _)))
                        · skip
                          replace hgs : g s = false := hgs
                          refine GL.skip rfl rfl ?_
                          refine GL.skip rfl rfl ?_
                          refine GL.skip rfl rfl ?_
                          refine GL.skip rfl rfl ?_
                          refine GL.yl (Yl.pick_f rfl rfl) rfl ?_
                          refine GL.nil ?_
                          refine GE.then_n ?_
                          refine GC.cond_ff rfl ?_
                          refine GC.skip ?_
                          refine GE.in_n ?_
                          refine GE.then_n ?_
                          refine GC.region rfl ?_
                          refine GL.yl (Yl.add rfl rfl (by omega) (by omega)) rfl ?_
                          refine GL.yl (Yl.move rfl) rfl ?_
                          refine GL.nil ?_
                          refine GE.again (s + 1) (by omega) (by omega) ?_ ?_
                          · exact (Sub.cons rfl (Sub.cons rfl (Sub.cons rfl (Sub.cons rfl (Sub.cons' rfl (congrArg (Value.int .i64) (by simp_all [ordF])) (Sub.cons rfl (Sub.nil _)))))))
                          · exact (HSub.cons rfl (HSub.cons rfl (HSub.nil _)))
                    · skip
                      have e : s = 64 := by omega
                      subst e
                      refine GC.exit ?_
                      refine GE.then_exit ?_
                      refine GE.then_exit ?_
                      refine GE.in_hit ?_
                      refine GE.then_n ?_
                      refine GC.seq ?_
                      refine GC.region rfl ?_
                      refine GL.yl (Yl.assign rfl) rfl ?_
                      refine GL.nil ?_
                      refine GE.then_n ?_
                      refine GC.seq ?_
                      have hord := ord_le f g 64
                      refine GC.draw T.mixed rfl ([(3, box b3 (flc f) 26)]) ?_
                      refine GA.take 0 rfl (by kernel_rfl) (by kernel_rfl) (by kernel_rfl) rfl (Yl.move rfl) rfl (HSub.cons rfl (HSub.nil _)) ?_
                      refine GA.take 1 rfl (by kernel_rfl) (by kernel_rfl) (by kernel_rfl) rfl (Yl.move rfl) rfl (HSub.cons rfl (HSub.nil _)) ?_
                      refine GA.take 3 rfl (by kernel_rfl) (by kernel_rfl) (by kernel_rfl) rfl (Yl.move rfl) rfl (HSub.cons rfl (HSub.nil _)) ?_
                      refine GQ.one 2 (by kernel_rfl) rfl rfl ?_
                      refine GO.callv _ T.en28 rfl rfl (fun w hw => compare_calls _ _ w) ?_
                      refine GK.any (HSub.cons rfl (HSub.nil _)) ?_
                      refine GA.take 4 rfl (by kernel_rfl) (by kernel_rfl) (by kernel_rfl) rfl (Yl.eql rfl rfl) rfl (HSub.cons rfl (HSub.nil _)) ?_
                      refine GA.take 5 rfl (by kernel_rfl) (by kernel_rfl) (by kernel_rfl) rfl (Yl.move rfl) rfl (HSub.cons rfl (HSub.nil _)) ?_
                      refine GQ.re (v' := .bool true) 326 rfl (congrArg Value.bool (decide_eq_true (cmp_flags f g))) ?_
                      refine GA.take 6 rfl (by kernel_rfl) (by kernel_rfl) (by kernel_rfl) rfl (Yl.move rfl) rfl (HSub.cons rfl (HSub.nil _)) ?_
                      refine GA.take 7 rfl (by kernel_rfl) (by kernel_rfl) (by kernel_rfl) rfl (Yl.move rfl) rfl (HSub.cons rfl (HSub.nil _)) ?_
                      refine GA.take 9 rfl (by kernel_rfl) (by kernel_rfl) (by kernel_rfl) rfl (Yl.move rfl) rfl (HSub.cons rfl (HSub.nil _)) ?_
                      refine GA.take 10 rfl (by kernel_rfl) (by kernel_rfl) (by kernel_rfl) rfl (Yl.neg rfl (by omega) (by omega)) rfl (HSub.cons rfl (HSub.nil _)) ?_
                      refine GQ.one 8 (by kernel_rfl) rfl rfl ?_
                      refine GO.callv _ T.en28 rfl rfl (fun w hw => compare_calls _ _ w) ?_
                      refine GK.any (HSub.cons rfl (HSub.nil _)) ?_
                      refine GA.take 11 rfl (by kernel_rfl) (by kernel_rfl) (by kernel_rfl) rfl (Yl.eql rfl rfl) rfl (HSub.cons rfl (HSub.nil _)) ?_
                      refine GA.take 12 rfl (by kernel_rfl) (by kernel_rfl) (by kernel_rfl) rfl (Yl.pick_t rfl rfl) rfl (HSub.cons rfl (HSub.nil _)) ?_
                      refine GA.take 13 rfl (by kernel_rfl) (by kernel_rfl) (by kernel_rfl) rfl (Yl.move rfl) rfl (HSub.cons rfl (HSub.nil _)) ?_
                      refine GQ.re (v' := .bool true) 334 rfl (congrArg Value.bool (decide_eq_true (cmp_flags' f g))) ?_
                      refine GA.take 14 rfl (by kernel_rfl) (by kernel_rfl) (by kernel_rfl) rfl (Yl.move rfl) rfl (HSub.cons rfl (HSub.nil _)) ?_
                      refine GA.take 15 rfl (by kernel_rfl) (by kernel_rfl) (by kernel_rfl) rfl (Yl.move rfl) rfl (HSub.cons rfl (HSub.nil _)) ?_
                      refine GA.take 17 rfl (by kernel_rfl) (by kernel_rfl) (by kernel_rfl) rfl (Yl.loadAll 3 rfl T.ag26 (flc_size f) rfl) rfl (HSub.cons rfl (HSub.nil _)) ?_
                      refine GQ.one 16 (by kernel_rfl) rfl rfl ?_
                      refine GO.callv _ T.en29 rfl rfl (fun w hw => text_calls _ _ 26 [110] w (own_tab hw rfl hT) (.inr rfl) T.en26 (by decide) (fun k hk w => name_calls k hk w)) ?_
                      refine GK.any (HSub.cons rfl (HSub.nil _)) ?_
                      refine GQ.one 18 (by kernel_rfl) rfl rfl ?_
                      refine GO.callv _ T.en30 (show evs _ _ = some [.agg (flc f), str [110]] from rfl) rfl (fun w hw => ftext_calls f [110] (by decide) w) ?_
                      refine GK.any (HSub.cons rfl (HSub.nil _)) ?_
                      refine GA.take 19 rfl (by kernel_rfl) (by kernel_rfl) (by kernel_rfl) rfl (Yl.seql rfl rfl) rfl (HSub.cons rfl (HSub.nil _)) ?_
                      refine GA.take 20 rfl (by kernel_rfl) (by kernel_rfl) (by kernel_rfl) rfl (Yl.pick_t rfl rfl) rfl (HSub.cons rfl (HSub.nil _)) ?_
                      refine GA.take 21 rfl (by kernel_rfl) (by kernel_rfl) (by kernel_rfl) rfl (Yl.move rfl) rfl (HSub.cons rfl (HSub.nil _)) ?_
                      refine GQ.re (v' := .bool true) 342 rfl (congrArg Value.bool (decide_eq_true (by rw [nums_setF]))) ?_
                      refine GA.take 22 rfl (by kernel_rfl) (by kernel_rfl) (by kernel_rfl) rfl (Yl.move rfl) rfl (HSub.cons rfl (HSub.nil _)) ?_
                      refine GA.take 24 rfl (by kernel_rfl) (by kernel_rfl) (by kernel_rfl) rfl (Yl.loadAll 3 rfl T.ag26 (flc_size f) rfl) rfl (HSub.cons rfl (HSub.nil _)) ?_
                      refine GQ.one 23 (by kernel_rfl) rfl rfl ?_
                      refine GO.callv _ T.en29 rfl rfl (fun w hw => text_calls _ _ 27 [] w (own_tab hw rfl hT) (.inl ⟨rfl, rfl⟩) T.en27 (by decide) (fun k hk w => itoa_calls k hk w)) ?_
                      refine GK.any (HSub.cons rfl (HSub.nil _)) ?_
                      refine GQ.one 25 (by kernel_rfl) rfl rfl ?_
                      refine GO.callv _ T.en30 (show evs _ _ = some [.agg (flc f), str []] from rfl) rfl (fun w hw => ftext_calls f [] (by decide) w) ?_
                      refine GK.any (HSub.cons rfl (HSub.nil _)) ?_
                      refine GA.take 26 rfl (by kernel_rfl) (by kernel_rfl) (by kernel_rfl) rfl (Yl.seql rfl rfl) rfl (HSub.cons rfl (HSub.nil _)) ?_
                      refine GA.take 27 rfl (by kernel_rfl) (by kernel_rfl) (by kernel_rfl) rfl (Yl.pick_t rfl rfl) rfl (HSub.cons rfl (HSub.nil _)) ?_
                      refine GA.take 28 rfl (by kernel_rfl) (by kernel_rfl) (by kernel_rfl) rfl (Yl.move rfl) rfl (HSub.cons rfl (HSub.nil _)) ?_
                      refine GQ.re (v' := .bool true) 349 rfl (congrArg Value.bool (decide_eq_true (by rw [nums_setF]))) ?_
                      refine GQ.one 29 (by kernel_rfl) rfl rfl ?_
                      refine GO.callv _ T.en20 rfl rfl (fun w hw => full_calls 3 w) ?_
                      refine GK.any (HSub.cons rfl (HSub.nil _)) ?_
                      refine GA.take 30 rfl (by kernel_rfl) (by kernel_rfl) (by kernel_rfl) rfl (Yl.ueql rfl (show ev _ _ = some (u64 7#64) from rfl)) rfl (HSub.cons rfl (HSub.nil _)) ?_
                      refine GA.take 31 rfl (by kernel_rfl) (by kernel_rfl) (by kernel_rfl) rfl (Yl.pick_t rfl rfl) rfl (HSub.cons rfl (HSub.nil _)) ?_
                      refine GA.take 32 rfl (by kernel_rfl) (by kernel_rfl) (by kernel_rfl) rfl (Yl.assign rfl) rfl (HSub.cons rfl (HSub.nil _)) ?_
                      refine GQ.done (by kernel_rfl) ?_
                      refine GE.then_n ?_
                      refine GC.ret ?_
                      refine GE.ret1 rfl rfl (fun w hw => ?_)
                      exact ⟨ret_eq (congrArg Value.bool (decide_eq_true full3)), hw.below⟩
end Go.Proofs.YtligejpfbcdpmaaDoor
