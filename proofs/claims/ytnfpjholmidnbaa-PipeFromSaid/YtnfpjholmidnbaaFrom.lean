/- pipe.From: a pipe out of its state. No condition. -/
import Derived.Test.YtnfpjholmidnbaaAppend
namespace Go.Proofs.Ytnfpjholmidnbaa
open Go.RowKit

/-- what From asks of a state -/
def Sound (q : List Int) (rd wr : Int) : Prop := q.length ≤ 512 ∧ IntKind.u32.wrap (wr - rd) = q.length

/-- behind New: all of the block -/
theorem new_calls0 (w : World) :
    Calls Try.prog 11 #[] w fun e w' => e = .returned (.pointer (some ⟨w.heap.size, 0, none⟩)) ∧ Blk w' w.heap.size (pcells z512 0 0 0 0 false false) 47 ∧ Below w.heap.size w w' := by
  have hz := zpipe_run
  have hn := zpipe_ne
  have hs := zpipe_set
  obtain ⟨C, hC⟩ : ∃ C, C = (pcells z512 0 0 0 0 false false).toArray := ⟨_, rfl⟩
  rw [← hC] at hs
  have HC := Lib.hid hC; clear hC
  go_enter Try.func11, Try.ntmps11
  go_wp2
  go_ret
  refine ⟨rfl, ?_, (Below.refl _ _).alloc (Nat.le_refl _) _⟩
  rw [HC.out]
  exact Blk.new w _ _

set_option maxRecDepth 100000 in
set_option maxHeartbeats 3200000 in
theorem from_calls (q : List Int) (v : Value) (rd wr : Int) (ar aw : Bool) (w : World) (hq : BSl w v q) (hr : 0 ≤ rd ∧ rd < 4294967296 ∧ 0 ≤ wr ∧ wr < 4294967296) (hs : Sound q rd wr) :
    Calls Try.prog 26 #[.agg #[v, .int .u32 rd, .int .u32 wr, .bool ar, .bool aw]] w fun e w' => ∃ P, e = .returned (.tuple #[.pointer (some ⟨P, 0, none⟩), .nilIface]) ∧ w.heap.size ≤ P ∧ PipeAt w' P q rd wr (!ar) (!aw) ∧ Below w.heap.size w w' := by
  obtain ⟨hs1, hs2⟩ := hs
  have hs3 : IntKind.u32.wrap (q.length : Int) = q.length := IntWalk.u32_in _ (by omega)
  have hs4 : decide ((512 : Int) < (q.length : Int)) = false := by simp; omega
  obtain ⟨ao, c, rfl⟩ := hq.shape
  have HQ := Lib.hid hq; clear hq
  go_enter Try.func26, Try.ntmps26
  go_wp2_with fail
  generalize hW : w.alloc _ = W
  have F0 : Fr No w W := by rw [← hW]; exact (Fr.refl _ _).alloc _
  have HS : Blk W w.heap.size [.slice ao q.length c, .int .u32 rd, .int .u32 wr, .bool ar, .bool aw] 41 := by rw [← hW]; exact Blk.new w _ _
  clear hW
  have hSl := HS.lt
  refine (new_calls0 W).mono ?_
  obtain ⟨P, hP⟩ : ∃ P, P = W.heap.size := ⟨_, rfl⟩
  rw [← hP]
  have hPS : w.heap.size < P := by omega
  rintro e w1 ⟨rfl, hb, hbel⟩
  rw [hP] at hbel
  have F1 := Fr.of_below hbel
  have HS1 := HS.fr F1 id
  have hfit : (pcells z512 0 0 0 0 false false).length = 519 := by simp [pcells, z512]
  have HB := Lib.hid hb; clear hb
  have HP := Lib.hid hP; clear hP
  have FW := Lib.hid (F0.trans F1 (fun _ _ h => h))
  clear hbel F1 F0
  have hpl : P < w1.heap.size := HB.out.lt
  obtain ⟨⟨s0, s1, s2, s3, s4⟩, _⟩ := slot5 HS1
  have HS1 := Lib.hid HS1; clear HS1 HS
  have hne : ¬ P = w.heap.size := by omega
  obtain ⟨X, hX⟩ : ∃ X, X = q.map (Value.int .u8) := ⟨_, rfl⟩
  have hxl : X.length = q.length := by rw [hX]; simp
  have HXL := Lib.hid hxl; clear hxl
  have hxs : 0 < q.length → ∃ bb oo, ao = some ⟨bb, oo, none⟩ ∧ bb < w.heap.size ∧ ∀ j u, X[j]? = some u → w1.cell? ⟨bb, oo + j, none⟩ = some u := by
    intro hpos
    obtain ⟨a', c', hv, _, _, _, hc⟩ := HQ.out
    cases hv
    obtain ⟨bb, oo, rfl, hcc⟩ := hc (by intro h; rw [h] at hpos; simp at hpos)
    refine ⟨bb, oo, rfl, World.block_lt_of_cell? w _ (hcc 0 hpos), fun j u hj => ?_⟩
    have hj2 : j < q.length := by rw [← HXL.out]; exact (List.getElem?_eq_some_iff.1 hj).1
    refine FW.out.cell ?_ id
    rw [hcc j hj2]
    rw [hX, List.getElem?_map, List.getElem?_eq_getElem hj2] at hj
    simpa [List.getElem?_eq_getElem hj2] using hj
  have HX := Lib.hid hX; clear hX
  have HXS := Lib.hid hxs; clear hxs
  have HFT := Lib.hid hfit; clear hfit
  go_wp2_with fail
  have hcn : X.length = min q.length 512 := by rw [HXL.out]; omega
  have hps : ∀ W, Fr No w1 W → 0 < X.length → some (⟨P, 1, none⟩ : Addr) = some ⟨P, 1, none⟩ ∧ ∃ ad, ao = some ad ∧ ∀ j u, X[j]? = some u → W.cell? (ad.add j) = some u := fun W hW hp => by
    rw [HXL.out] at hp
    obtain ⟨bb, oo, e, hbb, hcc⟩ := HXS.out hp
    exact ⟨rfl, _, e, fun j u hj => by rw [addr_add]; exact hW.cell (hcc j u hj) id⟩
  have hX1 : ∀ u ∈ X, u.oneCell' = true := by rw [HX.out]; exact ints_oneCell _ _
  have hcf : 1 + X.length ≤ (pcells z512 0 0 0 0 false false).length := by rw [HFT.out, HXL.out]; omega
  have HCN := Lib.hid hcn; clear hcn
  have HPS := Lib.hid hps; clear hps
  have HX1 := Lib.hid hX1; clear hX1
  have HCF := Lib.hid hcf; clear hcf
  have hsp : splice (pcells z512 0 0 0 0 false false) 1 X = pcells (splice z512 0 q) 0 0 0 0 false false := by
    rw [HX.out, show (1 : Nat) = 1 + 0 from rfl, pcells_splice z512_length 0 q (by omega)]
  obtain ⟨R, hR⟩ : ∃ R, R = splice z512 0 q := ⟨_, rfl⟩
  have hRl : R.length = 512 := by rw [hR, length_splice _ _ _ (by rw [z512_length]; omega), z512_length]
  rw [← hR] at hsp
  have HSP := Lib.hid hsp; clear hsp
  have HR := Lib.hid hR; clear hR
  have HRL := Lib.hid hRl; clear hRl
  go_region_law (first
    | (refine step_copy_splice rfl (.tmp 30) (.tmp 32) 34 34 rfl 5 Try.underlying34 (by kernel_rfl) _ _ _ _ _ _ rfl rfl P 1 (pcells z512 0 0 0 0 false false) 47 HB.out X HCN.out (HPS.out _ (Fr.refl No w1).drew) HCF.out HX1.out P w1 ((Fr.refl (fun _ => False) w1).drew.below.mono (Nat.le_of_lt hpl)) (Nat.le_refl _) ?_
       intro w4 hg4 hb4
       have hg5 : Blk w4 P (pcells R 0 0 0 0 false false) 47 := by have := hg4.out; rw [HSP.out] at this; exact this
       have k0 : w4.cell? ⟨P, 514, none⟩ = some (.int .i64 0) := (hg5.cell 514).trans (pcells_tail HRL.out 1)
       have k1 : w4.cell? ⟨P, 515, none⟩ = some (.int .u32 0) := (hg5.cell 515).trans (pcells_tail HRL.out 2)
       have k2 : w4.cell? ⟨P, 516, none⟩ = some (.int .u32 0) := (hg5.cell 516).trans (pcells_tail HRL.out 3)
       have k3 : w4.cell? ⟨P, 517, none⟩ = some (.bool false) := (hg5.cell 517).trans (pcells_tail HRL.out 4)
       have k4 : w4.cell? ⟨P, 518, none⟩ = some (.bool false) := (hg5.cell 518).trans (pcells_tail HRL.out 5)
       have f0 := hg5.free 514
       have f1 := hg5.free 515
       have f2 := hg5.free 516
       have f3 := hg5.free 517
       have f4 := hg5.free 518
       have r0 := (hb4.cell (p := ⟨w.heap.size, 0, none⟩) hPS).trans s0
       have r1 := (hb4.cell (p := ⟨w.heap.size, 1, none⟩) hPS).trans s1
       have r2 := (hb4.cell (p := ⟨w.heap.size, 2, none⟩) hPS).trans s2
       have r3 := (hb4.cell (p := ⟨w.heap.size, 3, none⟩) hPS).trans s3
       have r4 := (hb4.cell (p := ⟨w.heap.size, 4, none⟩) hPS).trans s4
       rw [HXL.out]
       have HG5 := Lib.hid hg5; clear hg5 hg4
       have HB4 := Lib.hid hb4; clear hb4))
  go_wp2_with fail
  have HF5 := Lib.hid (show Fr (· = P) w4 (w4.setCell ⟨P, 514, none⟩ (.int .i64 q.length)) from (Fr.refl (· = P) w4).setCell (fun _ => rfl) _)
  have hb6 : Blk (w4.setCell ⟨P, 514, none⟩ (.int .i64 q.length)) P (pcells R 0 q.length 0 0 false false) 47 := by
    have := HG5.out.set 514 (.int .i64 q.length)
    rw [pcells_set HRL.out 1] at this
    exact this
  have r1' := HF5.out.cell r1 (fun h => hne h.symm)
  have r2' := HF5.out.cell r2 (fun h => hne h.symm)
  have r3' := HF5.out.cell r3 (fun h => hne h.symm)
  have r4' := HF5.out.cell r4 (fun h => hne h.symm)
  have HB6 := Lib.hid hb6; clear hb6
  clear k0 k1 k2 k3 k4 f0 f1 f2 f3 f4 r0 r1 r2 r3 r4
  generalize w4.setCell ⟨P, 514, none⟩ (.int .i64 q.length) = w6 at *
  have k1 : w6.cell? ⟨P, 515, none⟩ = some (.int .u32 0) := (HB6.out.cell 515).trans (pcells_tail HRL.out 2)
  have k2 : w6.cell? ⟨P, 516, none⟩ = some (.int .u32 0) := (HB6.out.cell 516).trans (pcells_tail HRL.out 3)
  have k3 : w6.cell? ⟨P, 517, none⟩ = some (.bool false) := (HB6.out.cell 517).trans (pcells_tail HRL.out 4)
  have k4 : w6.cell? ⟨P, 518, none⟩ = some (.bool false) := (HB6.out.cell 518).trans (pcells_tail HRL.out 5)
  have f1 := HB6.out.free 515
  have f2 := HB6.out.free 516
  have f3 := HB6.out.free 517
  have f4 := HB6.out.free 518
  have hset : ∀ (x y : Nat) (u v : Value), (x = 515 ∧ y = 516 ∧ u = .int .u32 rd ∧ v = .int .u32 wr) ∨ (x = 516 ∧ y = 515 ∧ u = .int .u32 wr ∧ v = .int .u32 rd) →
      Blk ((((w6.setCell ⟨P, x, none⟩ u).setCell ⟨P, y, none⟩ v).setCell ⟨P, 517, none⟩ (.bool !ar)).setCell ⟨P, 518, none⟩ (.bool !aw)) P (pcells R 0 q.length rd wr (!ar) (!aw)) 47 ∧
        Fr (· = P) w6 ((((w6.setCell ⟨P, x, none⟩ u).setCell ⟨P, y, none⟩ v).setCell ⟨P, 517, none⟩ (.bool !ar)).setCell ⟨P, 518, none⟩ (.bool !aw)) := by
    intro x y u v h
    refine ⟨?_, ((((Fr.refl (· = P) w6).setCell (p := ⟨P, x, none⟩) (fun _ => rfl) u).setCell (p := ⟨P, y, none⟩) (fun _ => rfl) v).setCell (p := ⟨P, 517, none⟩) (fun _ => rfl) _).setCell (p := ⟨P, 518, none⟩) (fun _ => rfl) _⟩
    have := (((HB6.out.set x u).set y v).set 517 (.bool !ar)).set 518 (.bool !aw)
    have e : (Value.bool true :: R.map (Value.int .u8)).length = 513 := by simp [HRL.out]
    rcases h with ⟨rfl, rfl, rfl, rfl⟩ | ⟨rfl, rfl, rfl, rfl⟩
    · rw [pcells_set HRL.out 2] at this
      rw [List.set_append_right _ _ (by rw [e]; omega), List.set_append_right _ _ (by rw [e]; omega), List.set_append_right _ _ (by rw [e]; omega), e] at this
      simpa [pcells] using this
    · rw [pcells_set HRL.out 3] at this
      rw [List.set_append_right _ _ (by rw [e]; omega), List.set_append_right _ _ (by rw [e]; omega), List.set_append_right _ _ (by rw [e]; omega), e] at this
      simpa [pcells] using this
  have HSET := Lib.hid hset; clear hset
  have hRq : ∀ i, i < q.length → R[(0 + i) % 512]? = q[i]? := fun i hi => by
    rw [HR.out, Nat.zero_add, Nat.mod_eq_of_lt (by omega), splice_get _ _ _ (by rw [z512_length]; omega), if_pos (by omega)]
    simp
  have HRQ := Lib.hid hRq; clear hRq
  have fin : ∀ w9 : World, Blk w9 P (pcells R 0 q.length rd wr (!ar) (!aw)) 47 → Fr (· = P) w6 w9 →
      w.heap.size ≤ P ∧ PipeAt w9 P q rd wr (!ar) (!aw) ∧ Below w.heap.size w w9 := fun w9 hb hf =>
    ⟨Nat.le_of_lt hPS, ⟨hr, R, 0, HRL.out, by omega, hs1, HRQ.out, hb⟩, by
      have h1 : Fr (· = P) w4 w9 := HF5.out.trans hf (fun _ _ h => h)
      have h2 : Below w.heap.size w w4 := FW.out.below.trans (HB4.out.mono (by omega))
      exact Fr.below_of h2 h1 h2.size (fun k hk => by rw [hk]; omega)⟩
  have FIN := Lib.hid fin; clear fin
  go_region_law fail
  all_goals go_wp2_with fail
  all_goals
    go_ret2
    refine ⟨P, rfl, ?_⟩
    first
      | (obtain ⟨g1, g2⟩ := HSET.out 515 516 _ _ (.inl ⟨rfl, rfl, rfl, rfl⟩); exact FIN.out _ g1.drew g2.drew)
      | (obtain ⟨g1, g2⟩ := HSET.out 516 515 _ _ (.inr ⟨rfl, rfl, rfl, rfl⟩); exact FIN.out _ g1.drew g2.drew)

end Go.Proofs.Ytnfpjholmidnbaa
