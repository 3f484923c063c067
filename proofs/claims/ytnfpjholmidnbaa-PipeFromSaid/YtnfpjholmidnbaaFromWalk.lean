/- PipeFrom: the walk. No condition. -/
import Derived.Test.YtnfpjholmidnbaaPlaysWalk
import Derived.Test.YtnfpjholmidnbaaIsB
namespace Go.Proofs.Ytnfpjholmidnbaa
open Go.RowKit

/-- what is held while the acts are played: the pipe, its reference, the shelf; the other pipe with its state; the lent list of that one -/
structure Held (w0 w : World) (P Q B O O2 G N : Nat) (zs : List Int) (rd wt : Int) (ar aw : Bool) (n : Nat) : Prop where
  below : Below w0.heap.size w0 w
  ex : ∃ (bv kv wv : Value) (ks ws : List Value) (Y : Nat → List Int) (q : List Int) (r t : Int) (s u : Bool), Trio w w0.heap.size P Q B bv kv wv ks ws Y q r t s u n ∧ (∀ k, RefFP Q bv k → k ≠ G) ∧ (∀ k, ShFP B kv wv ks ws k → k ≠ G)
  other : PipeAt w O2 zs rd wt (!ar) (!aw)
  own : Blk w O [.slice (some ⟨G, 0, none⟩) N (N + 64), .int .u32 rd, .int .u32 wt, .bool ar, .bool aw] 41
  lent : Lent w w0.heap.size (.slice (some ⟨G, 0, none⟩) N (N + 64)) zs
  apart : P ≠ O2

theorem Held.fr {w0 w w' : World} {P Q B O O2 G N : Nat} {zs : List Int} {rd wt : Int} {ar aw : Bool} {n : Nat} (h : Held w0 w P Q B O O2 G N zs rd wt ar aw n) (hf : Fr No w w') : Held w0 w' P Q B O O2 G N zs rd wt ar aw n := by
  obtain ⟨bv, kv, wv, ks, ws, Y, q, r, t, s, u, h1, h2, h3⟩ := h.ex
  exact ⟨(Fr.of_below h.below |>.trans hf (fun _ _ h => h)).below, ⟨bv, kv, wv, ks, ws, Y, q, r, t, s, u, h1.no hf, h2, h3⟩, h.other.fr hf id, h.own.fr hf id, h.lent.fr hf (fun _ _ => id), h.apart⟩

/-- an act -/
theorem held_step {w0 w w' : World} {P Q B O O2 G N : Nat} {zs : List Int} {rd wt : Int} {ar aw : Bool} {n : Nat} (h : Held w0 w P Q B O O2 G N zs rd wt ar aw n)
    {bv kv wv : Value} {ks ws : List Value} {Y : Nat → List Int} {q : List Int} {r t : Int} {s u : Bool} (hT : Trio w w0.heap.size P Q B bv kv wv ks ws Y q r t s u n) (hR : ∀ k, RefFP Q bv k → k ≠ G) (hS : ∀ k, ShFP B kv wv ks ws k → k ≠ G)
    (ha : ActPost w0.heap.size P Q B bv kv wv ks ws n w (.returned (.bool true)) w') : ∃ n', n' ≤ n + 2 ∧ Held w0 w' P Q B O O2 G N zs rd wt ar aw n' := by
  unfold ActPost at ha
  obtain ⟨bv', kv', wv', ks', ws', Y', q', rd', wt', sr', sw', n', _, ht, hn, hbv, hfp, hf⟩ := ha
  have hG : G < w.heap.size := by obtain ⟨g, _, e, hb⟩ := h.lent; cases e; exact hb.lt
  obtain ⟨gcs, hGb⟩ : ∃ cs, Blk w G cs 5 := by obtain ⟨g, _, e, hb⟩ := h.lent; cases e; exact ⟨_, hb⟩
  obtain ⟨pcs, hpb⟩ := pipe_blk hT.pipe
  obtain ⟨ocs, hob⟩ := pipe_blk h.other
  have offO2 : ¬ (O2 = P ∨ RefFP Q bv O2 ∨ ShFP B kv wv ks ws O2) := by
    rintro (h5 | (h5 | h5) | h5)
    · exact h.apart h5.symm
    · rw [h5] at hob; exact Blk.ne hob hT.ref.2.1 (by decide) rfl
    · exact blk_row_ne hob hT.ref.2.2 (by decide) O2 h5 rfl
    · exact shelf_row_blk hT.shelf hob (by decide) (by decide) (by decide) h5
  have offO : ¬ (O = P ∨ RefFP Q bv O ∨ ShFP B kv wv ks ws O) := by
    have hown := h.own
    rintro (h5 | (h5 | h5) | h5)
    · rw [h5] at hown; exact Blk.ne hown hpb (by decide) rfl
    · rw [h5] at hown; exact Blk.ne hown hT.ref.2.1 (by decide) rfl
    · exact blk_row_ne hown hT.ref.2.2 (by decide) O h5 rfl
    · exact shelf_row_blk hT.shelf hown (by decide) (by decide) (by decide) h5
  have offG : ¬ (G = P ∨ RefFP Q bv G ∨ ShFP B kv wv ks ws G) := by
    rintro (h5 | h5 | h5)
    · rw [h5] at hGb; exact Blk.ne hGb hpb (by decide) rfl
    · exact hR G h5 rfl
    · exact hS G h5 rfl
  refine ⟨n', hn, ⟨?_, ⟨bv', kv', wv', ks', ws', Y', q', rd', wt', sr', sw', ht, ?_, ?_⟩, h.other.fr hf offO2, h.own.fr hf offO, h.lent.fr hf (fun k hk => by cases hk; exact offG), h.apart⟩⟩
  · refine Fr.below_of h.below hf h.below.size (fun k hk => ?_)
    rcases hk with h5 | (h5 | h5) | h5
    · rw [h5]; exact hT.low.1
    · rw [h5]; exact hT.low.2.1
    · exact (hT.ref.2.2.lt k h5).1
    · exact shelf_low hT.shelf hT.low.2.2 k h5
  · rintro k (h5 | h5)
    · exact hR k (.inl h5)
    · rcases hbv k h5 with h6 | h6
      · exact hR k (.inr h6)
      · omega
  · intro k hk
    rcases hfp k hk with h6 | h6
    · exact hS k h6
    · omega

theorem ten_cells {wr w' : World} {a b : Nat} {x0 x1 x2 x3 x4 y0 y1 y2 y3 y4 : Value} {t t' : TypeId} {S : Nat → Prop} (hf : Fr S wr w') (ha : ¬ S a) (hb : ¬ S b) (h : Blk wr a [x0, x1, x2, x3, x4] t) (h' : Blk wr b [y0, y1, y2, y3, y4] t') :
    w'.cell? ⟨a, 0, none⟩ = some x0 ∧ w'.cell? ⟨a, 1, none⟩ = some x1 ∧ w'.cell? ⟨a, 2, none⟩ = some x2 ∧ w'.cell? ⟨a, 3, none⟩ = some x3 ∧ w'.cell? ⟨a, 4, none⟩ = some x4 ∧
      w'.cell? ⟨b, 0, none⟩ = some y0 ∧ w'.cell? ⟨b, 1, none⟩ = some y1 ∧ w'.cell? ⟨b, 2, none⟩ = some y2 ∧ w'.cell? ⟨b, 3, none⟩ = some y3 ∧ w'.cell? ⟨b, 4, none⟩ = some y4 := slots2 (h.fr hf ha) (h'.fr hf hb)

theorem five_cells {wr w' : World} {a : Nat} {x0 x1 x2 x3 x4 : Value} {t : TypeId} {S : Nat → Prop} (hf : Fr S wr w') (ha : ¬ S a) (h : Blk wr a [x0, x1, x2, x3, x4] t) :
    w'.cell? ⟨a, 0, none⟩ = some x0 ∧ w'.cell? ⟨a, 1, none⟩ = some x1 ∧ w'.cell? ⟨a, 2, none⟩ = some x2 ∧ w'.cell? ⟨a, 3, none⟩ = some x3 ∧ w'.cell? ⟨a, 4, none⟩ = some x4 := (slot5 (h.fr hf ha)).1

theorem row_base {w : World} {base base' : Nat} {e : TypeId} {s n : Nat} {v : Value} {xs : List Value} (h : w.ownsRow base e s v n xs) (hb : base' ≤ base) : w.ownsRow base' e s v n xs := by
  obtain ⟨hl, h1 | ⟨g, cap, cur, hv, hg, rest⟩⟩ := h
  · exact ⟨hl, .inl h1⟩
  · exact ⟨hl, .inr ⟨g, cap, cur, hv, Nat.le_trans hb hg, rest⟩⟩

theorem state_calls' (b : Nat) (q : List Int) (rd wr : Int) (ar aw : Bool) (w : World) (h : PipeAt w b q rd wr (!ar) (!aw)) :
    Calls Try.prog 15 #[.pointer (some ⟨b, 0, none⟩)] w fun e w' => ∃ v', e = .returned (.agg #[v', .int .u32 rd, .int .u32 wr, .bool ar, .bool aw]) ∧ Own w' w.heap.size v' q ∧ Below w.heap.size w w' := by
  have := state_calls b q rd wr (!ar) (!aw) w h
  simpa only [Bool.not_not] using this

set_option maxRecDepth 100000 in
set_option maxHeartbeats 12800000 in
theorem pipefrom_walk (qs : List Int) (vs va : Value) (rd wr0 : Int) (ar aw : Bool) (acts : List ActD) (w : World) (hq : BSl w vs qs) (ha : Acts w va acts) (hr : 0 ≤ rd ∧ rd < 4294967296 ∧ 0 ≤ wr0 ∧ wr0 < 4294967296) :
    Calls Try.prog 9 #[.agg #[vs, .int .u32 rd, .int .u32 wr0, .bool ar, .bool aw], va] w fun e w' => e = .returned (.bool true) ∧ Below w.heap.size w w' := by
  obtain ⟨so, sc, rfl⟩ := hq.shape
  have hlen := ha.len
  obtain ⟨ao, ac, rfl⟩ := ha.shape
  have hqlen := hq.len
  have HQ := Lib.hid hq; clear hq
  have HA := Lib.hid ha; clear ha
  have HRR := Lib.hid hr; clear hr
  go_enter Try.func9, Try.ntmps9
  go_upto_region 2 with fail
  generalize hW : (w.alloc _).alloc _ = W
  have F0 : Fr No w W := by rw [← hW]; exact ((Fr.refl _ _).alloc _).alloc _
  have hS : Blk W w.heap.size [.slice so qs.length sc, .int .u32 rd, .int .u32 wr0, .bool ar, .bool aw] 41 := by rw [← hW]; exact (Blk.new w _ _).alloc _
  have hO : Blk W (w.heap.size + 1) [.slice so qs.length sc, .int .u32 rd, .int .u32 wr0, .bool ar, .bool aw] 41 := by
    rw [← hW]
    have := Blk.new (w.alloc (.cells [Value.slice so qs.length sc, .int .u32 rd, .int .u32 wr0, .bool ar, .bool aw].toArray 41)) [.slice so qs.length sc, .int .u32 rd, .int .u32 wr0, .bool ar, .bool aw] 41
    simpa using this
  clear hW
  have hOl := hO.lt
  obtain ⟨⟨s0, s1, s2, s3, s4⟩, _⟩ := slot5 hS
  have HS := Lib.hid hS; clear hS
  have HO := Lib.hid hO; clear hO
  have HF0 := Lib.hid F0; clear F0
  go_wp2_with fail
  refine (lend_calls qs _ W (HQ.out.no HF0.out)).mono ?_
  rintro e w1 ⟨v1, rfl, hlent, hb1⟩
  obtain ⟨G, hG, rfl, hGb⟩ := hlent
  have F1 := Fr.of_below hb1
  have HGB := Lib.hid hGb; clear hGb
  have hGl : G < w1.heap.size := HGB.out.lt
  have hO1 := HO.out.fr F1 id
  have o0 : w1.cell? ⟨w.heap.size + 1, 0, none⟩ = some (.slice so qs.length sc) := hO1.cell 0
  have fo0 := hO1.free 0
  have HO1 := Lib.hid hO1; clear hO1
  have HS1 := Lib.hid (HS.out.fr F1 id)
  have HF1 := Lib.hid (HF0.out.trans F1 (fun _ _ h => h)); clear hb1 F1 s0 s1 s2 s3 s4
  go_upto_region 3 with fail
  generalize hU : w1.setCell _ _ = W2
  have F2 : Fr (· = w.heap.size + 1) w1 W2 := by rw [← hU]; exact (Fr.refl (· = w.heap.size + 1) w1).setCell (p := ⟨w.heap.size + 1, 0, none⟩) (fun _ => rfl) _
  have hO2 : Blk W2 (w.heap.size + 1) [.slice (some ⟨G, 0, none⟩) qs.length (qs.length + 64), .int .u32 rd, .int .u32 wr0, .bool ar, .bool aw] 41 := by
    rw [← hU]; exact HO1.out.set 0 _
  clear hU o0 fo0
  have hGne : G ≠ w.heap.size + 1 := by omega
  have hS2 := HS1.out.fr F2 (fun h => by omega)
  have HGB2 := Lib.hid (HGB.out.fr F2 (fun h => hGne h))
  have HLT2 := Lib.hid (show Lent W2 w.heap.size (.slice (some ⟨G, 0, none⟩) qs.length (qs.length + 64)) qs from ⟨G, by have := HF0.out.size; omega, rfl, HGB2.out⟩)
  have HBW2 := Lib.hid (Fr.below_of HF1.out.below F2 HF1.out.size (fun k hk => by omega))
  have HQ2 := Lib.hid (HQ.out.no (Fr.of_below HBW2.out))
  have hW2 : w1.heap.size ≤ W2.heap.size := F2.size
  clear F2
  obtain ⟨⟨s0, s1, s2, s3, s4⟩, _⟩ := slot5 hS2
  obtain ⟨⟨o0, o1, o2, o3, o4⟩, _⟩ := slot5 hO2
  have HS2 := Lib.hid hS2; clear hS2
  have HO2 := Lib.hid hO2; clear hO2
  by_cases hs : Sound qs rd wr0
  · have HSD := Lib.hid hs; clear hs
    go_wp2_with fail
    refine (from_calls qs _ rd wr0 ar aw W2 (HLT2.out.bsl (by omega)) HRR.out HSD.out).mono ?_
    rintro e w3 ⟨P, rfl, hp1, hP, hb3⟩
    have F3 := Fr.of_below hb3
    have HP := Lib.hid hP; clear hP
    obtain ⟨⟨s0, s1, s2, s3, s4⟩, _⟩ := slot5 (HS2.out.fr F3 id)
    have HB3 := Lib.hid (HBW2.out.trans (hb3.mono HBW2.out.size))
    have HF3 := Lib.hid F3; clear F3 hb3 o0 o1 o2 o3 o4
    have hPl : P < w3.heap.size := HP.out.lt
    go_wp2_with fail
    refine (reffrom_calls qs _ rd wr0 ar aw w3 (HQ.out.no (Fr.of_below HB3.out)) HSD.out).mono ?_
    intro e w4 hpost
    unfold RefFromPost at hpost
    obtain ⟨Q, bv, rfl, hQ1, hRef, hbv, hb4⟩ := hpost
    have F4 := Fr.of_below hb4
    have HREF := Lib.hid hRef; clear hRef
    have HBV := Lib.hid hbv; clear hbv
    have HF4 := Lib.hid (HF3.out.trans F4 (fun _ _ h => h))
    have HB4 := Lib.hid (HB3.out.trans (hb4.mono HB3.out.size))
    have HP4 := Lib.hid (HP.out.fr F4 id)
    have hQ4 : w3.heap.size ≤ w4.heap.size := F4.size
    obtain ⟨⟨s0, s1, s2, s3, s4⟩, _⟩ := slot5 (HS2.out.fr HF4.out id)
    obtain ⟨⟨o0, o1, o2, o3, o4⟩, _⟩ := slot5 (HO2.out.fr HF4.out id)
    clear F4 hb4
    go_wp2_with fail
    refine (kept_calls qs _ _ w.heap.size w4 (HLT2.out.fr HF4.out (fun _ _ => id)) (HQ.out.no (Fr.of_below HB4.out))).mono ?_
    rintro e w5 ⟨rfl, n5, rfl⟩
    have F5 : Fr No w4 (w4.drewN n5) := (Fr.refl No w4).drewN n5
    generalize hw5 : w4.drewN n5 = w5 at *
    have hs5 : w5.heap.size = w4.heap.size := by rw [← hw5]; rfl
    clear hw5
    have HF5 := Lib.hid (HF4.out.trans F5 (fun _ _ h => h))
    have HB5 := Lib.hid ((Fr.of_below HB4.out).trans F5 (fun _ _ h => h)).below
    have HP5 := Lib.hid (HP4.out.fr F5 id)
    have HREF5 := Lib.hid (HREF.out.fr F5 (fun _ _ => id))
    have HL5 := Lib.hid (HLT2.out.fr HF5.out (fun _ _ => id))
    have HS5 := Lib.hid (HS2.out.fr HF5.out id)
    have HO5 := Lib.hid (HO2.out.fr HF5.out id)
    clear F5 s0 s1 s2 s3 s4 o0 o1 o2 o3 o4
    go_wp2_with fail
    have hG5 : G < w5.heap.size := by omega
    have HGB5 := Lib.hid (HGB2.out.fr HF5.out id)
    go_loopg [10] qs.length (fun g i wx => (∃ k : Nat, k ≤ qs.length ∧ g = qs.length - k ∧ i = .int .i64 k) ∧ Fr (· = G) w5 wx ∧ ∃ zs : List Int, zs.length = qs.length ∧ Blk wx G ((zs ++ marks).map (Value.int .u8)) 5)
    case atStart => exact ⟨⟨0, Nat.zero_le _, rfl, rfl⟩, Fr.refl _ _, qs, rfl, HGB5.out⟩
    case round =>
      obtain ⟨⟨k, hk, rfl, rfl⟩, hf, zs, hzl, hzb⟩ := hrel
      have hO6 := HO5.out.fr hf (fun h => hGne h.symm)
      have o0 : wr.cell? ⟨w.heap.size + 1, 0, none⟩ = some (.slice (some ⟨G, 0, none⟩) qs.length (qs.length + 64)) := hO6.cell 0
      by_cases hlt : k < qs.length
      · have hcell : wr.cell? ⟨G, k, none⟩ = some (.int .u8 (zs[k]'(by omega))) := by
          rw [hzb.cell k, List.map_append, List.getElem?_append_left (by simp; omega)]
          simp [List.getElem?_eq_getElem (show k < zs.length by omega)]
        have hfree := hzb.free k
        obtain ⟨x, hx⟩ : ∃ x, x = zs[k]'(by omega) := ⟨_, rfl⟩
        rw [← hx] at hcell
        obtain ⟨y, hy⟩ : ∃ y, y = bits BinOp.xor IntKind.u8 x 255 := ⟨_, rfl⟩
        have hy2 := hy.symm
        have HNX := Lib.hid (show Fr (· = G) w5 (wr.drew.setCell ⟨G, k, none⟩ (.int .u8 y)) ∧ ∃ zs' : List Int, zs'.length = qs.length ∧ Blk (wr.drew.setCell ⟨G, k, none⟩ (.int .u8 y)) G ((zs' ++ marks).map (Value.int .u8)) 5 from
          ⟨hf.drew.setCell (p := ⟨G, k, none⟩) (fun _ => rfl) _, zs.set k y, by simpa using hzl, by
            have h5 := hzb.drew.set k (.int .u8 y)
            rwa [List.map_append, List.set_append_left _ _ (by simp; omega), ← List.map_set, ← List.map_append] at h5⟩)
        clear hf hzb hO6 hx hy hzl
        have z0 : (0 : Int) ≤ k := by omega
        have z1 : (k : Int) < qs.length := by omega
        go_wp2_with fail
        go_still_tail 10, (by kernel_rfl)
        go_wp2_with fail
        go_roundg (qs.length - (k + 1))
        case measure => omega
        case rel => exact ⟨⟨k + 1, by omega, rfl, by go_num⟩, HNX.out⟩
      · have he : k = qs.length := by omega
        subst he
        have hGb : w.heap.size + 1 < G := by omega
        have HS6 := Lib.hid (HS5.out.fr hf (fun h => by omega))
        have HO6 := Lib.hid hO6; clear hO6
        have HP6 := Lib.hid (HP5.out.fr hf (fun h => by omega))
        have hgR : ∀ x, RefFP Q bv x → x ≠ G := by
          rintro x (rfl | hx)
          · omega
          · have := HBV.out x hx; omega
        have HGR := Lib.hid hgR
        have HREF6 := Lib.hid (HREF5.out.fr hf (fun x hx hh => hgR x hx hh)); clear hgR
        have HL6 := Lib.hid (show Lent wr w.heap.size (.slice (some ⟨G, 0, none⟩) qs.length (qs.length + 64)) zs from ⟨G, by omega, by rw [hzl], hzb⟩)
        have HB6 := Lib.hid (Fr.below_of HB5.out hf HB5.out.size (fun x hx => by omega))
        have hw6 : w5.heap.size ≤ wr.heap.size := hf.size
        have HSZ := Lib.hid (show Sound zs rd wr0 by have h7 := HSD.out; unfold Sound at h7 ⊢; rw [hzl]; exact h7)
        have hzlen : zs.length ≤ 140737488355328 := by omega
        have HZL := Lib.hid hzl; clear hzl hzb hf
        obtain ⟨⟨_, o1, o2, o3, o4⟩, _⟩ := slot5 HO6.out
        go_wp2_with fail
        refine (from_calls zs _ rd wr0 ar aw wr (HL6.out.bsl (by omega)) HRR.out HSZ.out).mono ?_
        rintro e w7 ⟨O2, rfl, hO2, hOP, hb7⟩
        have F7 := Fr.of_below hb7
        have HOP7 := Lib.hid hOP; clear hOP
        have HS7 := Lib.hid (HS6.out.fr F7 id)
        have HO7 := Lib.hid (HO6.out.fr F7 id)
        have HP7 := Lib.hid (HP6.out.fr F7 id)
        have HREF7 := Lib.hid (HREF6.out.fr F7 (fun _ _ => id))
        have HL7 := Lib.hid (HL6.out.fr F7 (fun _ _ => id))
        have HB7 := Lib.hid (HB6.out.trans (hb7.mono HB6.out.size))
        have hw7 : wr.heap.size ≤ w7.heap.size := F7.size
        have hOPl : O2 < w7.heap.size := HOP7.out.lt
        have hq512 : qs.length ≤ 512 := HSD.out.1
        have hz512 : zs.length ≤ 512 := by rw [HZL.out]; exact hq512
        clear F7 hb7 o0 o1 o2 o3 o4
        have k0 := ten_cells (Fr.refl No w7) id id HS7.out HO7.out
        go_wp2_with fail
        go_region_held3 (fun w' => w'.cell? ⟨w.heap.size, 0, none⟩ = some (.slice so qs.length sc) ∧ w'.cell? ⟨w.heap.size, 1, none⟩ = some (.int .u32 rd) ∧ w'.cell? ⟨w.heap.size, 2, none⟩ = some (.int .u32 wr0) ∧ w'.cell? ⟨w.heap.size, 3, none⟩ = some (.bool ar) ∧ w'.cell? ⟨w.heap.size, 4, none⟩ = some (.bool aw) ∧ w'.cell? ⟨w.heap.size + 1, 0, none⟩ = some (.slice (some ⟨G, 0, none⟩) qs.length (qs.length + 64)) ∧ w'.cell? ⟨w.heap.size + 1, 1, none⟩ = some (.int .u32 rd) ∧ w'.cell? ⟨w.heap.size + 1, 2, none⟩ = some (.int .u32 wr0) ∧ w'.cell? ⟨w.heap.size + 1, 3, none⟩ = some (.bool ar) ∧ w'.cell? ⟨w.heap.size + 1, 4, none⟩ = some (.bool aw))
          (first
            | go_keep
            | exact k4
            | exact k3
            | exact k2
            | exact k1)
          (first
            | (go_at_call 15; have hh := TK2.out; refine (state_calls' P qs rd wr0 ar aw _ (HP7.out.fr (F2.out) id)).mono ?_; rintro e y3 ⟨v, rfl, hown, hbel⟩; obtain ⟨xa, xc, rfl⟩ := hown.shape; have hf : Fr No w7 y3 := (F2.out).trans (Fr.of_below hbel) (fun _ _ h => h); have F3 := Lib.hid hf; have BS3 := Lib.hid (hown.bsl (by omega)); have k3 := ten_cells hf id id HS7.out HO7.out; have TK3 := Lib.hid True.intro; clear hown hbel hf hh)
            | (go_at_call 15; refine (state_calls' O2 zs rd wr0 ar aw _ (HOP7.out.fr ((Fr.refl No w7).drew) id)).mono ?_; rintro e y1 ⟨v, rfl, hown, hbel⟩; obtain ⟨xa, xc, rfl⟩ := hown.shape; have hf : Fr No w7 y1 := ((Fr.refl No w7).drew).trans (Fr.of_below hbel) (fun _ _ h => h); have F1 := Lib.hid hf; have BS1 := Lib.hid (hown.bsl (by omega)); have k1 := ten_cells hf id id HS7.out HO7.out; have TK1 := Lib.hid True.intro; clear hown hbel hf)
            | (go_at_call 14; have hh := TK3.out; refine (same_calls qs _ _ rd wr0 _ _ y3 BS3.out ((HQ.out.no (Fr.of_below HB7.out)).no F3.out)).mono ?_; rintro e y4 ⟨rfl, hf0⟩; have hf : Fr No w7 y4 := F3.out.trans hf0 (fun _ _ h => h); have F4 := Lib.hid hf; have k4 := ten_cells hf id id HS7.out HO7.out; have TK4 := Lib.hid True.intro; clear hf hf0 hh)
            | (go_at_call 14; have hh := TK1.out; refine (same_calls zs _ _ rd wr0 _ _ y1 BS1.out ((HL7.out.bsl (by omega)).no F1.out)).mono ?_; rintro e y2 ⟨rfl, hf0⟩; have hf : Fr No w7 y2 := F1.out.trans hf0 (fun _ _ h => h); have F2 := Lib.hid hf; have k2 := ten_cells hf id id HS7.out HO7.out; have TK2 := Lib.hid True.intro; clear hf hf0 hh))
        rename_i hHeld
        clear hHeld
        have FY := F4.out
        have hy4 : w7.heap.size ≤ y4.heap.size := FY.size
        have HFY := Lib.hid FY; clear FY k0 k1 k2 k3 k4 TK1 TK2 TK3 TK4 F1 F2 F3 F4 BS1 BS3
        go_wp2_with fail
        generalize hU : y4.alloc _ = U5
        have FU : Fr No y4 U5 := by rw [← hU]; exact (Fr.refl _ _).alloc _
        have hSh : Blk U5 y4.heap.size [.slice none 0 0, .slice none 0 0, .slice none 0 0, .int .i64 ((0 : Nat) : Int)] 33 := by rw [← hU]; exact Blk.new y4 _ _
        clear hU
        obtain ⟨B, hB⟩ : ∃ B, B = y4.heap.size := ⟨_, rfl⟩
        rw [← hB] at hSh ⊢
        have hB1 : y4.heap.size ≤ B := by omega
        clear hB
        have FU5 : Fr No w7 U5 := HFY.out.trans FU (fun _ _ h => h)
        have hb5 : Below w.heap.size w U5 := ((Fr.of_below HB7.out).trans FU5 (fun _ _ h => h)).below
        have hShelf : ShelfAt U5 w.heap.size B (.slice none 0 0) (.slice none 0 0) [] [] (fun _ => []) 0 :=
          ⟨hb5.size, hSh, World.ownsRow_nil _ _ _ _, World.ownsRow_nil _ _ _ _, rfl, fun j v hj => by simp at hj, fun j v hj => by simp at hj, fun i j v v' _ hi => by simp at hi, fun g hg => by simp [Value.ownBlock] at hg⟩
        have hr7 := HREF7.out.fr FU5 (fun _ _ => id)
        have hheld : Held w U5 P Q B (w.heap.size + 1) O2 G qs.length zs rd wr0 ar aw 0 := by
          refine ⟨hb5, ⟨bv, .slice none 0 0, .slice none 0 0, [], [], fun _ => [], qs, rd, wr0, !ar, !aw, ⟨HP7.out.fr FU5 id, ?_, hShelf, fun k hk hh => ?_, ?_⟩, HGR.out, ?_⟩, HOP7.out.fr FU5 id, HO7.out.fr FU5 id, HL7.out.fr FU5 (fun _ _ => id), by omega⟩
          · rw [Bool.not_not, Bool.not_not]
            exact ⟨hb5.size, hr7.2.1, row_base hr7.2.2 (by omega)⟩
          · obtain ⟨v, hv, _⟩ := hh; simp at hv
          · exact ⟨by omega, by omega, by omega⟩
          · rintro k (h5 | h5 | h5 | ⟨v, hv, _⟩)
            · omega
            · simp [Value.ownBlock] at h5
            · simp [Value.ownBlock] at h5
            · simp at hv
        have HH0 := Lib.hid hheld
        clear hheld hr7 hShelf hb5 FU5 FU hSh
        clear hs5 hlt hk hGne hG hGl hp1 hPl hq512 hQ1 hQ4 hG5 hGb hw6 hO2 hw7 hOPl hy4 hW2 HREF7 HL7 HP7 HB7 HFY HGR HREF6 HREF5 HREF HP6 HP5 HP4 HP HL6 HSZ HB6 HF5 HF4 HF3 HB5 HB4 HB3 HBV HGB5 HGB2 HGB HLT2 HQ2 HL5 HSD
        obtain ⟨wo, hwo⟩ : ∃ wo : World, wo = wr := ⟨_, rfl⟩
        clear hwo
        go_loopg [13] acts.length (fun g i wx => ∃ (k n : Nat), k ≤ acts.length ∧ g = acts.length - k ∧ i = .int .i64 k ∧ n ≤ 2 * k ∧ Held w wx P Q B (w.heap.size + 1) O2 G qs.length zs rd wr0 ar aw n)
        case atStart => exact ⟨0, 0, Nat.zero_le _, rfl, rfl, by omega, HH0.out⟩
        case round =>
          obtain ⟨k, n, hk, rfl, rfl, hn, hheld⟩ := hrel
          obtain ⟨bv1, kv1, wv1, ks1, ws1, Y, q, r, t, s, u, hT, hR, hS⟩ := hheld.ex
          have hq512' := hT.pipe.bound
          have HH := Lib.hid hheld; clear hheld
          have HT := Lib.hid hT; clear hT
          have HR := Lib.hid hR; clear hR
          have HSX := Lib.hid hS; clear hS
          by_cases hlt : k < acts.length
          · obtain ⟨b, o, rfl, hbw, da, dc, hd, hI1, hI2, hI3, hcell⟩ := HA.out.get k hlt
            have hfr := Fr.of_below HH.out.below
            obtain ⟨c0, c1, c2, c3⟩ := hcell _ hfr
            have HDD := Lib.hid hd
            have HLOW := Lib.hid hd.lowb; clear hd hcell
            generalize acts[k] = A at *
            obtain ⟨kd, wh, data, N⟩ := A
            simp only at *
            have HDW := Lib.hid (HDD.out.no hfr); clear hfr
            go_wp2_with fail
            refine (act_calls w.heap.size P Q B bv1 kv1 wv1 ks1 ws1 Y q r t s u n kd wh N _ data wr HT.out HDW.out (fun hne x hx => HLOW.out hne x hx) hI3 (by omega) (by omega)).mono ?_
            intro e w9 hpost
            have he : e = .returned (.bool true) := by unfold ActPost at hpost; obtain ⟨_, _, _, _, _, _, _, _, _, _, _, _, he, _⟩ := hpost; exact he
            subst he
            obtain ⟨n', hn', hd'⟩ := held_step HH.out HT.out HR.out HSX.out hpost
            have HD' := Lib.hid hd'; clear hd' hpost c0 c1 c2 c3
            go_wp2_with fail
            go_roundg (acts.length - (k + 1))
            case measure => omega
            case rel => exact ⟨k + 1, n', by omega, by omega, by go_num, by omega, HD'.out⟩
          · have he : k = acts.length := by omega
            subst he
            have HOWN := Lib.hid HH.out.own
            have HLN := Lib.hid HH.out.lent
            have HNO := Lib.hid (shelf_row_blk HT.out.shelf HOWN.out (by decide) (by decide) (by decide))
            have k0 := five_cells (Fr.refl No wr) id HOWN.out
            go_wp2_with fail
            go_region_held3 (fun w' => w'.cell? ⟨w.heap.size + 1, 0, none⟩ = some (.slice (some ⟨G, 0, none⟩) qs.length (qs.length + 64)) ∧ w'.cell? ⟨w.heap.size + 1, 1, none⟩ = some (.int .u32 rd) ∧ w'.cell? ⟨w.heap.size + 1, 2, none⟩ = some (.int .u32 wr0) ∧ w'.cell? ⟨w.heap.size + 1, 3, none⟩ = some (.bool ar) ∧ w'.cell? ⟨w.heap.size + 1, 4, none⟩ = some (.bool aw))
              (first
                | go_keep
                | exact k6
                | exact k5
                | exact k4
                | exact k3
                | exact k2
                | exact k1)
              (first
                | (go_at_call 15; have hh := TK3.out; refine (state_calls' O2 zs rd wr0 ar aw _ (HH.out.other.fr (F3.out) id)).mono ?_; rintro e x4 ⟨v, rfl, hown, hbel⟩; obtain ⟨xa, xc, rfl⟩ := hown.shape; have hf : Fr No wr x4 := (F3.out).trans (Fr.of_below hbel) (fun _ _ h => h); have F4 := Lib.hid hf; have BS4 := Lib.hid (hown.bsl (by omega)); have k4 := five_cells hf id HOWN.out; have TK4 := Lib.hid True.intro; clear hown hbel hf hh)
                | (go_at_call 15; refine (state_calls P q r t s u _ (HT.out.pipe.fr ((Fr.refl No wr).drew) id)).mono ?_; rintro e x1 ⟨v, rfl, hown, hbel⟩; obtain ⟨xa, xc, rfl⟩ := hown.shape; have hf : Fr No wr x1 := ((Fr.refl No wr).drew).trans (Fr.of_below hbel) (fun _ _ h => h); have F1 := Lib.hid hf; have BS1 := Lib.hid (hown.bsl (by omega)); have k1 := five_cells hf id HOWN.out; have TK1 := Lib.hid True.intro; clear hown hbel hf)
                | (go_at_call 16; refine (refstate_calls w.heap.size Q bv1 q r t (!s) (!u) _ (HT.out.no F1.out).ref (by omega)).mono ?_; rintro e x2 ⟨v, rfl, hown, hbel⟩; obtain ⟨ya, yc, rfl⟩ := hown.shape; have hf0 := Fr.of_below hbel; have hf : Fr No wr x2 := F1.out.trans hf0 (fun _ _ h => h); have F2 := Lib.hid hf; have BS2 := Lib.hid (hown.bsl (by omega)); have BP2 := Lib.hid (BS1.out.no hf0); have k2 := five_cells hf id HOWN.out; have TK2 := Lib.hid True.intro; clear hown hbel hf hf0)
                | (go_at_call 14; have hh := TK4.out; refine (same_calls zs _ _ rd wr0 _ _ x4 BS4.out ((HLN.out.bsl hzlen).no F4.out)).mono ?_; rintro e x5 ⟨rfl, hf0⟩; have hf : Fr No wr x5 := F4.out.trans hf0 (fun _ _ h => h); have F5 := Lib.hid hf; have k5 := five_cells hf id HOWN.out; have TK5 := Lib.hid True.intro; clear hf hf0 hh)
                | (go_at_call 14; refine (same_calls q _ _ r t _ _ x2 BP2.out BS2.out).mono ?_; rintro e x3 ⟨rfl, hf0⟩; have hf : Fr No wr x3 := F2.out.trans hf0 (fun _ _ h => h); have F3 := Lib.hid hf; have k3 := five_cells hf id HOWN.out; have TK3 := Lib.hid True.intro; clear hf hf0)
                | (go_at_call 17; refine (ends_calls w.heap.size B kv1 wv1 ks1 ws1 Y n x5 (HT.out.no F5.out).shelf (by omega)).mono ?_; rintro e x6 ⟨rfl, hf0⟩; have hbel := Fr.below_of (Fr.below_of HH.out.below F5.out HH.out.below.size (fun _ h => h.elim)) hf0 (Nat.le_trans HH.out.below.size F5.out.size) (shelf_low (HT.out.no F5.out).shelf HT.out.low.2.2); have HFIN := Lib.hid hbel; have hf : Fr (ShFP B kv1 wv1 ks1 ws1) wr x6 := (F5.out.mono (fun _ h => h.elim)).trans hf0 (fun _ _ h => h); have k6 := five_cells hf HNO.out HOWN.out; clear hf hf0 hbel))
            rename_i hHeld
            clear hHeld
            go_wp2_with fail
            go_ret
            exact ⟨rfl, HFIN.out⟩
  · have HSD := Lib.hid hs; clear hs
    go_wp2_with fail
    refine (from_bad qs _ rd wr0 ar aw W2 (HLT2.out.bsl (by omega)) HSD.out).mono ?_
    rintro e w3 ⟨i, rfl, hfault, hb3⟩
    have F3 := Fr.of_below hb3
    have HFA := Lib.hid hfault; clear hfault
    obtain ⟨⟨s0, s1, s2, s3, s4⟩, _⟩ := slot5 (HS2.out.fr F3 id)
    have HB3 := Lib.hid (HBW2.out.trans (hb3.mono HBW2.out.size))
    clear F3 hb3 o0 o1 o2 o3 o4
    go_wp2_with fail
    refine (reffrom_bad qs _ rd wr0 ar aw w3 (HQ.out.no (Fr.of_below HB3.out)) HSD.out).mono ?_
    rintro e w4 ⟨rfl, hb4⟩
    have HFA4 := Lib.hid (HFA.out.fr (Fr.of_below hb4) (fun _ h => h.elim))
    have HB4 := Lib.hid (HB3.out.trans (hb4.mono HB3.out.size))
    clear hb4 s0 s1 s2 s3 s4
    go_wp2_with fail
    refine (newfault_calls ⟨#[112, 105, 112, 101]⟩ 0 4 w4).mono ?_
    rintro e w5 ⟨l, rfl, hl, hb5⟩
    have HL := Lib.hid hl; clear hl
    have HFA5 := Lib.hid (HFA4.out.fr (Fr.of_below hb5) (fun _ h => h.elim))
    have HB5 := Lib.hid (HB4.out.trans (hb5.mono HB4.out.size)); clear hb5
    go_wp2_with fail
    refine (isfault_calls _ l w4.heap.size ⟨#[112, 105, 112, 101]⟩ 0 4 w5 HFA5.out HL.out (by omega)).mono ?_
    rintro e w6 ⟨rfl, hf6⟩
    have HB6 := Lib.hid ((Fr.of_below HB5.out).trans hf6 (fun _ _ h => h)).below; clear hf6
    go_wp2_with fail
    go_ret
    exact ⟨rfl, HB6.out⟩

end Go.Proofs.Ytnfpjholmidnbaa
