/- PipePlays: the walk. No condition. -/
import Derived.Test.YtnfpjholmidnbaaAct
import Derived.Test.YtnfpjholmidnbaaActs
import Derived.Test.YtnfpjholmidnbaaSame
import Derived.Deep.Cut
namespace Go.Proofs.Ytnfpjholmidnbaa
open Go.RowKit

/-- two pipes, two references, one shelf -/
structure Duo (w0 w : World) (P0 P1 Q0 Q1 B : Nat) (n : Nat) : Prop where
  below : Below w0.heap.size w0 w
  ex : ∃ (b0 b1 kv wv : Value) (ks ws : List Value) (Y : Nat → List Int) (q0 : List Int) (r0 t0 : Int) (s0 u0 : Bool) (q1 : List Int) (r1 t1 : Int) (s1 u1 : Bool),
    Trio w w0.heap.size P0 Q0 B b0 kv wv ks ws Y q0 r0 t0 s0 u0 n ∧ Trio w w0.heap.size P1 Q1 B b1 kv wv ks ws Y q1 r1 t1 s1 u1 n ∧ P0 ≠ P1 ∧ (∀ k, RefFP Q0 b0 k → ¬ RefFP Q1 b1 k)

theorem Duo.swap {w0 w : World} {P0 P1 Q0 Q1 B n : Nat} (h : Duo w0 w P0 P1 Q0 Q1 B n) : Duo w0 w P1 P0 Q1 Q0 B n := by
  obtain ⟨hb, b0, b1, kv, wv, ks, ws, Y, q0, r0, t0, s0, u0, q1, r1, t1, s1, u1, h0, h1, hp, hr⟩ := h
  exact ⟨hb, b1, b0, kv, wv, ks, ws, Y, q1, r1, t1, s1, u1, q0, r0, t0, s0, u0, h1, h0, fun e => hp e.symm, fun k h2 h3 => hr k h3 h2⟩

/-- an act on the first pair -/
theorem duo_step {w0 w w' : World} {P0 P1 Q0 Q1 B n : Nat} {b0 b1 kv wv : Value} {ks ws : List Value} {Y : Nat → List Int} {q0 : List Int} {r0 t0 : Int} {s0 u0 : Bool} {q1 : List Int} {r1 t1 : Int} {s1 u1 : Bool} (hb : Below w0.heap.size w0 w)
    (h0 : Trio w w0.heap.size P0 Q0 B b0 kv wv ks ws Y q0 r0 t0 s0 u0 n) (h1 : Trio w w0.heap.size P1 Q1 B b1 kv wv ks ws Y q1 r1 t1 s1 u1 n) (hp : P0 ≠ P1) (hr : ∀ k, RefFP Q0 b0 k → ¬ RefFP Q1 b1 k)
    (ha : ActPost w0.heap.size P0 Q0 B b0 kv wv ks ws n w (.returned (.bool true)) w') : (∃ n', n' ≤ n + 2 ∧ Duo w0 w' P0 P1 Q0 Q1 B n') ∧ ∀ (b : Nat) (cs : List Value) (t : TypeId), t ≠ 47 → t ≠ 72 → t ≠ 33 → t ≠ 34 → t ≠ 5 → Blk w b cs t → Blk w' b cs t := by
  unfold ActPost at ha
  obtain ⟨b0', kv', wv', ks', ws', Y', q', rd', wt', sr', sw', n', _, ht, hn, hbv, hfp, hf⟩ := ha
  have hP1r : ¬ RefFP Q0 b0 P1 := by
    obtain ⟨cs, hc⟩ := pipe_blk h1.pipe
    rintro (hk | hk)
    · subst hk; exact Blk.ne hc h0.ref.2.1 (by decide) rfl
    · exact blk_row_ne hc h0.ref.2.2 (by decide) P1 hk rfl
  have hP0r : ¬ RefFP Q1 b1 P0 := by
    obtain ⟨cs, hc⟩ := pipe_blk h0.pipe
    rintro (hk | hk)
    · subst hk; exact Blk.ne hc h1.ref.2.1 (by decide) rfl
    · exact blk_row_ne hc h1.ref.2.2 (by decide) P0 hk rfl
  have hR : RefAt w' w0.heap.size Q1 b1 q1 r1 t1 (!s1) (!u1) := h1.ref.fr hf (fun k hk hh => by
    rcases hh with h5 | h5 | h5
    · exact hP0r (h5 ▸ hk)
    · exact hr k h5 hk
    · exact h1.rs k hk h5)
  have hP : PipeAt w' P1 q1 r1 t1 s1 u1 := h1.pipe.fr hf (fun hh => by
    rcases hh with h5 | h5 | h5
    · exact hp h5.symm
    · exact hP1r h5
    · exact h1.ps h5)
  refine ⟨?_, fun b cs t e1 e2 e3 e4 e5 hc => hc.fr hf (fun hh => by
    rcases hh with h5 | (h5 | h5) | h5
    · obtain ⟨cs', hc'⟩ := pipe_blk h0.pipe
      rw [h5] at hc
      exact Blk.ne hc hc' e1 rfl
    · rw [h5] at hc
      exact Blk.ne hc h0.ref.2.1 e2 rfl
    · exact blk_row_ne hc h0.ref.2.2 e5 b h5 rfl
    · exact shelf_row_blk h0.shelf hc e3 e4 e5 h5)⟩
  refine ⟨n', hn, ⟨?_, b0', b1, kv', wv', ks', ws', Y', q', rd', wt', sr', sw', q1, r1, t1, s1, u1, ht, ⟨hP, hR, ht.shelf, fun k hk hs => ?_, h1.low⟩, hp, fun k hk hk1 => ?_⟩⟩
  · refine Fr.below_of hb hf hb.size (fun k hk => ?_)
    rcases hk with h5 | (h5 | h5) | h5
    · rw [h5]; exact h0.low.1
    · rw [h5]; exact h0.low.2.1
    · exact (h0.ref.2.2.lt k h5).1
    · rcases h5 with h6 | h6 | h6 | ⟨v, hv, h6⟩
      · rw [h6]; exact h0.low.2.2
      · exact (h0.shelf.kept.lt k h6).1
      · exact (h0.shelf.was.lt k h6).1
      · rcases List.mem_append.1 hv with hv | hv
        · obtain ⟨j, hj, rfl⟩ := List.getElem_of_mem hv
          exact ((h0.shelf.krow j _ (List.getElem?_eq_getElem hj)).1.lt k h6).1
        · obtain ⟨j, hj, rfl⟩ := List.getElem_of_mem hv
          exact ((h0.shelf.wrow j _ (List.getElem?_eq_getElem hj)).lt k h6).1
  · rcases hfp k (.inr (.inr (.inr hs))) with h5 | h5
    · exact h1.rs k (.inr hk) h5
    · have := h1.ref.lt k (.inr hk); omega
  · rcases hk with h5 | h5
    · exact hr k (.inl h5) hk1
    · rcases hbv k h5 with h6 | h6
      · exact hr k (.inr h6) hk1
      · have := h1.ref.lt k hk1; omega

/-- what came in lies below -/
theorem BSl.lowb {w : World} {v : Value} {xs : List Int} (h : BSl w v xs) : xs ≠ [] → ∀ k, v.ownBlock = some k → k < w.heap.size := by
  intro hne k hk
  obtain ⟨ao, c, rfl, _, _, _, h4⟩ := h
  obtain ⟨b, o, rfl, hc⟩ := h4 hne
  cases hk
  exact World.block_lt_of_cell? w _ (hc 0 (List.length_pos_iff.2 hne))

/-- a shelf of the call's own lies above -/
theorem shelf_low {w : World} {base B : Nat} {kv wv : Value} {ks ws : List Value} {Y : Nat → List Int} {n : Nat} (h : ShelfAt w base B kv wv ks ws Y n) (hB : base ≤ B) : ∀ k, ShFP B kv wv ks ws k → base ≤ k := by
  rintro k (h6 | h6 | h6 | ⟨v, hv, h6⟩)
  · rw [h6]; exact hB
  · exact (h.kept.lt k h6).1
  · exact (h.was.lt k h6).1
  · rcases List.mem_append.1 hv with hv | hv
    · obtain ⟨j, hj, rfl⟩ := List.getElem_of_mem hv
      exact ((h.krow j _ (List.getElem?_eq_getElem hj)).1.lt k h6).1
    · obtain ⟨j, hj, rfl⟩ := List.getElem_of_mem hv
      exact ((h.wrow j _ (List.getElem?_eq_getElem hj)).lt k h6).1

theorem four_cells {wr w' : World} {a b : Nat} {x0 x1 y0 y1 : Value} (hf : Fr No wr w') (h0 : wr.cell? ⟨a, 0, none⟩ = some x0) (h1 : wr.cell? ⟨a, 1, none⟩ = some x1) (h2 : wr.cell? ⟨b, 0, none⟩ = some y0) (h3 : wr.cell? ⟨b, 1, none⟩ = some y1) :
    w'.cell? ⟨a, 0, none⟩ = some x0 ∧ w'.cell? ⟨a, 1, none⟩ = some x1 ∧ w'.cell? ⟨b, 0, none⟩ = some y0 ∧ w'.cell? ⟨b, 1, none⟩ = some y1 := ⟨hf.cell h0 id, hf.cell h1 id, hf.cell h2 id, hf.cell h3 id⟩
theorem four_keep {S : Nat → Prop} {wr w' : World} {a b : Nat} {x0 x1 y0 y1 : Value} (hf : Fr S wr w') (ha : ¬ S a) (hb : ¬ S b) (h0 : wr.cell? ⟨a, 0, none⟩ = some x0) (h1 : wr.cell? ⟨a, 1, none⟩ = some x1) (h2 : wr.cell? ⟨b, 0, none⟩ = some y0) (h3 : wr.cell? ⟨b, 1, none⟩ = some y1) :
    w'.cell? ⟨a, 0, none⟩ = some x0 ∧ w'.cell? ⟨a, 1, none⟩ = some x1 ∧ w'.cell? ⟨b, 0, none⟩ = some y0 ∧ w'.cell? ⟨b, 1, none⟩ = some y1 := ⟨hf.cell h0 ha, hf.cell h1 ha, hf.cell h2 hb, hf.cell h3 hb⟩

theorem bv_one (v : BitVec 64) : (v &&& (1#64)).toNat = 0 ∨ (v &&& (1#64)).toNat = 1 := by
  rw [BitVec.toNat_and]
  have : (1#64).toNat = 2 ^ 1 - 1 := rfl
  rw [this, Nat.and_two_pow_sub_one_eq_mod]
  omega
theorem bits_one (x : Int) : bits BinOp.and IntKind.i64 x 1 = 0 ∨ bits BinOp.and IntKind.i64 x 1 = 1 := by
  have e : bits BinOp.and IntKind.i64 x 1 = IntKind.i64.wrap ((BitVec.ofInt 64 x &&& (1#64)).toNat : Int) := rfl
  rw [e]
  rcases bv_one (BitVec.ofInt 64 x) with h | h
  · left; rw [h]; rfl
  · right; rw [h]; rfl

set_option maxRecDepth 100000 in
set_option maxHeartbeats 6400000 in
theorem plays_walk (acts : List ActD) (va : Value) (w : World) (ha : Acts w va acts) :
    Calls Try.prog 4 #[va] w fun e w' => e = .returned (.bool true) ∧ Below w.heap.size w w' := by
  have hlen := ha.len
  obtain ⟨ao, ac, rfl⟩ := ha.shape
  have HA := Lib.hid ha; clear ha
  go_enter Try.func4, Try.ntmps4
  go_wp2_with fail
  refine (new_calls w).mono ?_
  rintro e w1 ⟨rfl, hP0, hb1⟩
  have hl0 := hP0.lt
  have HP0 := Lib.hid hP0; clear hP0
  have HB1 := Lib.hid hb1; clear hb1
  go_wp2_with fail
  refine (new_calls w1).mono ?_
  rintro e w2 ⟨rfl, hP1, hb2⟩
  have hl1 := hP1.lt
  have HP02 := Lib.hid (HP0.out.fr (Fr.of_below hb2) id)
  have HP1 := Lib.hid hP1; clear hP1
  have HB2 := Lib.hid (HB1.out.trans (hb2.mono HB1.out.size)); clear hb2
  go_wp2_with fail
  generalize hU : w2.alloc _ = U2
  have FU2 : Fr No w2 U2 := by rw [← hU]; exact (Fr.refl _ _).alloc _
  have hA : Blk U2 w2.heap.size [.pointer (some ⟨w.heap.size, 0, none⟩), .pointer (some ⟨w1.heap.size, 0, none⟩)] 26 := by rw [← hU]; exact Blk.new w2 _ _
  clear hU
  have hlA := hA.lt
  refine (refnew_calls U2).mono ?_
  rintro e w3 ⟨rfl, hQ0, hb3⟩
  have hlQ0 := hQ0.2.1.lt
  have F3 := Fr.of_below hb3
  have hbU : w.heap.size ≤ U2.heap.size := by have := HB2.out.size; have := FU2.size; omega
  have HQ0 := Lib.hid (show RefAt w3 w.heap.size U2.heap.size (.slice none 0 0) [] 0 0 true true from ⟨by omega, hQ0.2.1, World.ownsRow_nil _ _ _ _⟩); clear hQ0
  have HA3 := Lib.hid (hA.fr F3 id); clear hA
  have HP03 := Lib.hid ((HP02.out.fr FU2 id).fr F3 id)
  have HP13 := Lib.hid ((HP1.out.fr FU2 id).fr F3 id)
  have HB3 := Lib.hid (((Fr.of_below HB2.out).trans FU2 (fun _ _ h => h)).trans F3 (fun _ _ h => h))
  have hs3 : U2.heap.size ≤ w3.heap.size := F3.size
  have hs2 : w2.heap.size ≤ U2.heap.size := FU2.size
  clear F3 FU2 hb3
  go_wp2_with fail
  refine (refnew_calls w3).mono ?_
  rintro e w4 ⟨rfl, hQ1, hb4⟩
  have hlQ1 := hQ1.2.1.lt
  have F4 := Fr.of_below hb4
  have HQ1 := Lib.hid (show RefAt w4 w.heap.size w3.heap.size (.slice none 0 0) [] 0 0 true true from ⟨by omega, hQ1.2.1, World.ownsRow_nil _ _ _ _⟩); clear hQ1
  have HQ04 := Lib.hid (HQ0.out.fr F4 (fun _ _ => id))
  have HA4 := Lib.hid (HA3.out.fr F4 id)
  have HP04 := Lib.hid (HP03.out.fr F4 id)
  have HP14 := Lib.hid (HP13.out.fr F4 id)
  have HB4 := Lib.hid (HB3.out.trans F4 (fun _ _ h => h))
  have hs4 : w3.heap.size ≤ w4.heap.size := F4.size
  clear F4 hb4
  go_upto_region 3 with fail
  generalize hU : w4.alloc _ = U4
  have FU4 : Fr No w4 U4 := by rw [← hU]; exact (Fr.refl _ _).alloc _
  have hD : Blk U4 w4.heap.size [.pointer (some ⟨U2.heap.size, 0, none⟩), .pointer (some ⟨w3.heap.size, 0, none⟩)] 29 := by rw [← hU]; exact Blk.new w4 _ _
  clear hU
  have hlD := hD.lt
  have HA5 := Lib.hid (HA4.out.fr FU4 id)
  have z0 : U4.cell? ⟨w2.heap.size, 0, none⟩ = some (.pointer (some ⟨w.heap.size, 0, none⟩)) := HA5.out.cell 0
  have z1 : U4.cell? ⟨w2.heap.size, 1, none⟩ = some (.pointer (some ⟨w1.heap.size, 0, none⟩)) := HA5.out.cell 1
  have HD5 := Lib.hid hD; clear hD
  have HQ05 := Lib.hid (HQ04.out.fr FU4 (fun _ _ => id))
  have HQ15 := Lib.hid (HQ1.out.fr FU4 (fun _ _ => id))
  have HP05 := Lib.hid (HP04.out.fr FU4 id)
  have HP15 := Lib.hid (HP14.out.fr FU4 id)
  have HB5 := Lib.hid (HB4.out.trans FU4 (fun _ _ h => h))
  have hs5 : w4.heap.size < U4.heap.size := hlD
  clear FU4
  go_wp2_with fail
  generalize hU : U4.alloc _ = U5
  have FU5 : Fr No U4 U5 := by rw [← hU]; exact (Fr.refl _ _).alloc _
  have hSh : Blk U5 U4.heap.size [.slice none 0 0, .slice none 0 0, .slice none 0 0, .int .i64 ((0 : Nat) : Int)] 33 := by rw [← hU]; exact Blk.new U4 _ _
  clear hU z0 z1
  have hlB := hSh.lt
  have hShelf : ShelfAt U5 w.heap.size U4.heap.size (.slice none 0 0) (.slice none 0 0) [] [] (fun _ => []) 0 :=
    ⟨by have := HB5.out.size; have := FU5.size; omega, hSh, World.ownsRow_nil _ _ _ _, World.ownsRow_nil _ _ _ _, rfl, fun j v hj => by simp at hj, fun j v hj => by simp at hj, fun i j v v' _ hi => by simp at hi, fun g hg => by simp [Value.ownBlock] at hg⟩
  have hw1 : w.heap.size ≤ w1.heap.size := by omega
  have hw2 : w.heap.size ≤ w3.heap.size := by omega
  have hduo : Duo w U5 w.heap.size w1.heap.size U2.heap.size w3.heap.size U4.heap.size 0 := by
    refine ⟨(HB5.out.trans FU5 (fun _ _ h => h)).below, .slice none 0 0, .slice none 0 0, _, _, _, _, _, [], 0, 0, false, false, [], 0, 0, false, false,
      ⟨HP05.out.fr FU5 id, HQ05.out.fr FU5 (fun _ _ => id), hShelf, fun k hk => by simp [Value.ownBlock] at hk, by omega, hbU, by omega⟩,
      ⟨HP15.out.fr FU5 id, HQ15.out.fr FU5 (fun _ _ => id), hShelf, fun k hk => by simp [Value.ownBlock] at hk, by omega, hw2, by omega⟩, by omega, fun k hk hk' => ?_⟩
    rcases hk with rfl | hk
    · rcases hk' with h5 | h5
      · omega
      · simp [Value.ownBlock] at h5
    · simp [Value.ownBlock] at hk
  have HI := Lib.hid (show Duo w U5 w.heap.size w1.heap.size U2.heap.size w3.heap.size U4.heap.size 0 ∧ Blk U5 w2.heap.size [.pointer (some ⟨w.heap.size, 0, none⟩), .pointer (some ⟨w1.heap.size, 0, none⟩)] 26 ∧ Blk U5 w4.heap.size [.pointer (some ⟨U2.heap.size, 0, none⟩), .pointer (some ⟨w3.heap.size, 0, none⟩)] 29 from ⟨hduo, HA5.out.fr FU5 id, HD5.out.fr FU5 id⟩)
  clear hduo hShelf hSh FU5
  go_loopg [6] acts.length (fun g i wx => (∃ (k n : Nat), k ≤ acts.length ∧ g = acts.length - k ∧ i = .int .i64 k ∧ n ≤ 2 * k ∧ Duo w wx w.heap.size w1.heap.size U2.heap.size w3.heap.size U4.heap.size n) ∧
    Blk wx w2.heap.size [.pointer (some ⟨w.heap.size, 0, none⟩), .pointer (some ⟨w1.heap.size, 0, none⟩)] 26 ∧ Blk wx w4.heap.size [.pointer (some ⟨U2.heap.size, 0, none⟩), .pointer (some ⟨w3.heap.size, 0, none⟩)] 29)
  case atStart => exact ⟨⟨0, 0, Nat.zero_le _, rfl, rfl, by omega, HI.out.1⟩, HI.out.2.1, HI.out.2.2⟩
  case round =>
    obtain ⟨⟨k, n, hk, rfl, rfl, hn, hduo⟩, hA, hD⟩ := hrel
    have za0 : wr.cell? ⟨w2.heap.size, 0, none⟩ = some (.pointer (some ⟨w.heap.size, 0, none⟩)) := hA.cell 0
    have za1 : wr.cell? ⟨w2.heap.size, 1, none⟩ = some (.pointer (some ⟨w1.heap.size, 0, none⟩)) := hA.cell 1
    have zd0 : wr.cell? ⟨w4.heap.size, 0, none⟩ = some (.pointer (some ⟨U2.heap.size, 0, none⟩)) := hD.cell 0
    have zd1 : wr.cell? ⟨w4.heap.size, 1, none⟩ = some (.pointer (some ⟨w3.heap.size, 0, none⟩)) := hD.cell 1
    have HA6 := Lib.hid hA; clear hA
    have HD6 := Lib.hid hD; clear hD
    by_cases hlt : k < acts.length
    · obtain ⟨b, o, rfl, hbw, da, dc, hd, hI1, hI2, hI3, hcell⟩ := HA.out.get k hlt
      obtain ⟨c0, c1, c2, c3⟩ := hcell _ (Fr.of_below hduo.below)
      have HDD := Lib.hid hd; clear hd hcell
      generalize acts[k] = A at *
      obtain ⟨kd, wh, data, N⟩ := A
      simp only at *
      have HLOW := Lib.hid (HDD.out.lowb)
      rcases bits_one wh with hb | hb
      · obtain ⟨hbel, b0, b1, kv, wv, ks, ws, Y, q0, r0, t0, s0, u0, q1, r1, t1, s1, u1, h0, h1, hp, hr⟩ := hduo
        have hfr := Fr.of_below hbel
        have hdw : BSl wr (.slice da data.length dc) data := HDD.out.no hfr
        have HDW := Lib.hid (hdw.no (Fr.refl No wr).drew); clear hdw
        have HBE := Lib.hid hbel; clear hbel hfr
        have HT0 := Lib.hid (h0.no (Fr.refl No wr).drew)
        have H0 := Lib.hid h0; clear h0
        have H1 := Lib.hid h1; clear h1
        have HPN := Lib.hid hp; clear hp
        have HRN := Lib.hid hr; clear hr
        go_wp2_with fail
        clear hb
        go_still_tail 11, (by kernel_rfl)
        go_wp2_with fail
        refine (act_calls w.heap.size w.heap.size U2.heap.size U4.heap.size b0 kv wv ks ws Y q0 r0 t0 s0 u0 n kd wh N _ data wr.drew HT0.out HDW.out (fun hne x hx => HLOW.out hne x hx) hI3 (by omega) (by omega)).mono ?_
        intro e w5 hpost
        have he : e = .returned (.bool true) := by unfold ActPost at hpost; obtain ⟨_, _, _, _, _, _, _, _, _, _, _, _, he, _⟩ := hpost; exact he
        subst he
        have hst := duo_step (Below.drew HBE.out) HT0.out (H1.out.no (Fr.refl No wr).drew) HPN.out HRN.out hpost
        obtain ⟨⟨n', hn', hd'⟩, hkeep⟩ := hst
        have HDU := Lib.hid hd'
        have HA7 := Lib.hid (hkeep _ _ _ (by decide) (by decide) (by decide) (by decide) (by decide) HA6.out.drew)
        have HD7 := Lib.hid (hkeep _ _ _ (by decide) (by decide) (by decide) (by decide) (by decide) HD6.out.drew)
        clear hd' hkeep hpost
        clear za0 za1 zd0 zd1 c0 c1 c2 c3
        go_wp2_with fail
        go_roundg (acts.length - (k + 1))
        case measure => omega
        case rel => exact ⟨⟨k + 1, n', by omega, by omega, by go_num, by omega, HDU.out⟩, HA7.out, HD7.out⟩
      · obtain ⟨hbel, b0, b1, kv, wv, ks, ws, Y, q0, r0, t0, s0, u0, q1, r1, t1, s1, u1, h0, h1, hp, hr⟩ := hduo.swap
        have hfr := Fr.of_below hbel
        have hdw : BSl wr (.slice da data.length dc) data := HDD.out.no hfr
        have HDW := Lib.hid (hdw.no (Fr.refl No wr).drew); clear hdw
        have HBE := Lib.hid hbel; clear hbel hfr
        have HT0 := Lib.hid (h0.no (Fr.refl No wr).drew)
        have H0 := Lib.hid h0; clear h0
        have H1 := Lib.hid h1; clear h1
        have HPN := Lib.hid hp; clear hp
        have HRN := Lib.hid hr; clear hr
        go_wp2_with fail
        clear hb
        go_still_tail 11, (by kernel_rfl)
        go_wp2_with fail
        refine (act_calls w.heap.size w1.heap.size w3.heap.size U4.heap.size b0 kv wv ks ws Y q0 r0 t0 s0 u0 n kd wh N _ data wr.drew HT0.out HDW.out (fun hne x hx => HLOW.out hne x hx) hI3 (by omega) (by omega)).mono ?_
        intro e w5 hpost
        have he : e = .returned (.bool true) := by unfold ActPost at hpost; obtain ⟨_, _, _, _, _, _, _, _, _, _, _, _, he, _⟩ := hpost; exact he
        subst he
        have hst := duo_step (Below.drew HBE.out) HT0.out (H1.out.no (Fr.refl No wr).drew) HPN.out HRN.out hpost
        obtain ⟨⟨n', hn', hd'⟩, hkeep⟩ := hst
        have HDU := Lib.hid hd'.swap
        have HA7 := Lib.hid (hkeep _ _ _ (by decide) (by decide) (by decide) (by decide) (by decide) HA6.out.drew)
        have HD7 := Lib.hid (hkeep _ _ _ (by decide) (by decide) (by decide) (by decide) (by decide) HD6.out.drew)
        clear hd' hkeep hpost
        clear za0 za1 zd0 zd1 c0 c1 c2 c3
        go_wp2_with fail
        go_roundg (acts.length - (k + 1))
        case measure => omega
        case rel => exact ⟨⟨k + 1, n', by omega, by omega, by go_num, by omega, HDU.out⟩, HA7.out, HD7.out⟩
    · have he : k = acts.length := by omega
      subst he
      obtain ⟨hbel, b0, b1, kv, wv, ks, ws, Y, q0, r0, t0, s0, u0, q1, r1, t1, s1, u1, h0, h1, hp, hr⟩ := hduo
      have hq0 := h0.pipe.bound
      have hq1 := h1.pipe.bound
      have HNA := Lib.hid (shelf_row_blk h0.shelf HA6.out (by decide) (by decide) (by decide))
      have HND := Lib.hid (shelf_row_blk h0.shelf HD6.out (by decide) (by decide) (by decide))
      have HBE := Lib.hid hbel; clear hbel hr hp
      have HT0 := Lib.hid h0; clear h0
      have HT1 := Lib.hid h1; clear h1
      go_wp2_with fail
      go_region_held3 (fun w' => w'.cell? ⟨w2.heap.size, 0, none⟩ = some (.pointer (some ⟨w.heap.size, 0, none⟩)) ∧ w'.cell? ⟨w2.heap.size, 1, none⟩ = some (.pointer (some ⟨w1.heap.size, 0, none⟩)) ∧ w'.cell? ⟨w4.heap.size, 0, none⟩ = some (.pointer (some ⟨U2.heap.size, 0, none⟩)) ∧ w'.cell? ⟨w4.heap.size, 1, none⟩ = some (.pointer (some ⟨w3.heap.size, 0, none⟩)))
        (first
          | go_keep
          | exact k7
          | exact k6
          | exact k5
          | exact k4
          | exact k3
          | exact k2
          | exact k1)
        (first
          | (go_at_call 15; have hh := TK3.out; refine (state_calls w1.heap.size q1 r1 t1 s1 u1 _ (HT1.out.no F3.out).pipe).mono ?_; rintro e x4 ⟨v, rfl, hown, hbel⟩; obtain ⟨xa, xc, rfl⟩ := hown.shape; have hf : Fr No wr x4 := (F3.out).trans (Fr.of_below hbel) (fun _ _ h => h); have F4 := Lib.hid hf; have BS4 := Lib.hid (hown.bsl (by omega)); have k4 := four_cells hf za0 za1 zd0 zd1; have TK4 := Lib.hid True.intro; clear hown hbel hf hh)
          | (go_at_call 15; refine (state_calls w.heap.size q0 r0 t0 s0 u0 _ (HT0.out.no (Fr.refl No wr).drew).pipe).mono ?_; rintro e x1 ⟨v, rfl, hown, hbel⟩; obtain ⟨xa, xc, rfl⟩ := hown.shape; have hf : Fr No wr x1 := ((Fr.refl No wr).drew).trans (Fr.of_below hbel) (fun _ _ h => h); have F1 := Lib.hid hf; have BS1 := Lib.hid (hown.bsl (by omega)); have k1 := four_cells hf za0 za1 zd0 zd1; have TK1 := Lib.hid True.intro; clear hown hbel hf)
          | (go_at_call 16; have hh := TK4.out; refine (refstate_calls w.heap.size w3.heap.size b1 q1 r1 t1 (!s1) (!u1) _ (HT1.out.no F4.out).ref (by omega)).mono ?_; rintro e x5 ⟨v, rfl, hown, hbel⟩; obtain ⟨ya, yc, rfl⟩ := hown.shape; have hf0 := Fr.of_below hbel; have hf : Fr No wr x5 := (F4.out).trans hf0 (fun _ _ h => h); have F5 := Lib.hid hf; have BS5 := Lib.hid (hown.bsl (by omega)); have BP5 := Lib.hid (BS4.out.no hf0); have k5 := four_cells hf za0 za1 zd0 zd1; have TK5 := Lib.hid True.intro; clear hown hbel hf hf0 hh)
          | (go_at_call 16; have hh := TK1.out; refine (refstate_calls w.heap.size U2.heap.size b0 q0 r0 t0 (!s0) (!u0) _ (HT0.out.no F1.out).ref (by omega)).mono ?_; rintro e x2 ⟨v, rfl, hown, hbel⟩; obtain ⟨ya, yc, rfl⟩ := hown.shape; have hf0 := Fr.of_below hbel; have hf : Fr No wr x2 := (F1.out).trans hf0 (fun _ _ h => h); have F2 := Lib.hid hf; have BS2 := Lib.hid (hown.bsl (by omega)); have BP2 := Lib.hid (BS1.out.no hf0); have k2 := four_cells hf za0 za1 zd0 zd1; have TK2 := Lib.hid True.intro; clear hown hbel hf hf0 hh)
          | (go_at_call 14; have hh := TK5.out; refine (same_calls q1 _ _ r1 t1 _ _ x5 BP5.out BS5.out).mono ?_; rintro e x6 ⟨rfl, hf0⟩; have hf : Fr No wr x6 := F5.out.trans hf0 (fun _ _ h => h); have F6 := Lib.hid hf; have k6 := four_cells hf za0 za1 zd0 zd1; have TK6 := Lib.hid True.intro; clear hf hf0 hh)
          | (go_at_call 14; have hh := TK2.out; refine (same_calls q0 _ _ r0 t0 _ _ x2 BP2.out BS2.out).mono ?_; rintro e x3 ⟨rfl, hf0⟩; have hf : Fr No wr x3 := F2.out.trans hf0 (fun _ _ h => h); have F3 := Lib.hid hf; have k3 := four_cells hf za0 za1 zd0 zd1; have TK3 := Lib.hid True.intro; clear hf hf0 hh)
          | (go_at_call 17; refine (ends_calls w.heap.size U4.heap.size kv wv ks ws Y n x6 (HT0.out.no F6.out).shelf (by omega)).mono ?_; rintro e x7 ⟨rfl, hf0⟩; have hbel := Fr.below_of (Fr.below_of HBE.out F6.out HBE.out.size (fun _ h => h.elim)) hf0 (Nat.le_trans HBE.out.size F6.out.size) (shelf_low (HT0.out.no F6.out).shelf HT0.out.low.2.2); have HFIN := Lib.hid hbel; have hf : Fr (ShFP U4.heap.size kv wv ks ws) wr x7 := (F6.out.mono (fun _ h => h.elim)).trans hf0 (fun _ _ h => h); have k7 := four_keep hf (HNA.out) (HND.out) za0 za1 zd0 zd1; clear hf hf0 hbel))
      rename_i hHeld
      clear hHeld
      go_wp2_with fail
      go_ret
      exact ⟨rfl, HFIN.out⟩

end Go.Proofs.Ytnfpjholmidnbaa
