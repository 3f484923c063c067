/- pipe.Pipe: Put. No condition. -/
import Derived.Test.YtnfpjholmidnbaaPipeD
namespace Go.Proofs.Ytnfpjholmidnbaa
open Go.RowKit

/-- copy into a block that is known whole: nothing else turns -/
theorem wpList_copy_fr {P : Program} {w : World} {ops : Array Oper} {rest : List Oper} {o : Oper} {a : Act} {Q : Exit → Act → World → Prop} (hgd : o.guard = none) (d s : Operand) (dT sT : TypeId)
    (ho : o.op = .call { callee := .builtin .copy, args := #[d, s], argTypes := #[dT, sT] }) (elem : TypeId) (hu : P.underlying dT = some (.slice elem)) (hsz : (P.info? elem).map (·.size) = some 1)
    (dp sp : Option Addr) (dLen dCap sLen sCap : Nat) (hd : a.eval d = .slice dp dLen dCap) (hs : a.eval s = .slice sp sLen sCap)
    (g off : Nat) (cur : List Value) (t : TypeId) (hg : Blk w g cur t) (cs : List Value) (hn : cs.length = min sLen dLen)
    (hpos : 0 < cs.length → dp = some ⟨g, off, none⟩ ∧ ∃ ad, sp = some ad ∧ ∀ j v, cs[j]? = some v → w.cell? (ad.add j) = some v)
    (hfit : off + cs.length ≤ cur.length) (h1 : ∀ v ∈ cs, v.oneCell' = true)
    (h : ∀ w', Hid (Blk w' g (splice cur off cs) t) → Fr (· = g) w w' → wpList P ops Q rest (a.put o.dst (goInt cs.length)) w') :
    wpList P ops Q (o :: rest) a w := by
  by_cases h0 : cs.length = 0
  · obtain rfl : cs = [] := List.eq_nil_of_length_eq_zero h0
    refine wpList_copy_nothing hgd d s dT sT ho elem hu hsz dp sp dLen dCap sLen sCap hd hs (by simpa using hn.symm) ?_
    exact h w (show Blk _ _ _ _ by simpa [splice] using hg) (Fr.refl _ _)
  · obtain ⟨rfl, ad, rfl, hsrc⟩ := hpos (by omega)
    refine wpList_copy_own hgd d s dT sT ho elem hu hsz g off dLen dCap ad sLen sCap hd hs cur.toArray t hg cs hn hsrc (by simpa using hfit) h1 ?_
    refine h _ (show Blk _ _ _ _ from setRow_heap w g _ _ t _ hg) ?_
    exact (Fr.refl (· = g) w).setRow (fun _ => rfl) _

theorem pcells_splice {ring : List Int} {at_ held : Nat} {rd wr : Int} {sr sw : Bool} (h : ring.length = 512) (pos : Nat) (xs : List Int) (hp : pos + xs.length ≤ 512) :
    splice (pcells ring at_ held rd wr sr sw) (1 + pos) (xs.map (Value.int .u8)) = pcells (splice ring pos xs) at_ held rd wr sr sw := by
  have hl : (splice ring pos xs).length = 512 := by rw [length_splice _ _ _ (by omega), h]
  have hpl : (pcells ring at_ held rd wr sr sw).length = 519 := by simp [pcells, h]
  apply List.ext_getElem?
  intro i
  rw [splice_get _ _ _ (by rw [hpl]; simp; omega), List.length_map]
  by_cases h0 : i = 0
  · subst h0; rw [if_neg (by omega)]; rfl
  · obtain ⟨j, rfl⟩ : ∃ j, i = 1 + j := ⟨i - 1, by omega⟩
    by_cases hj : j < 512
    · rw [pcells_ring hl j hj, pcells_ring h j hj, splice_get _ _ _ (by omega)]
      by_cases hi : pos ≤ j ∧ j < pos + xs.length
      · rw [if_pos (by omega), if_pos hi, List.getElem?_map, show 1 + j - (1 + pos) = j - pos by omega, List.getElem?_eq_getElem (show j - pos < xs.length by omega)]
        rfl
      · rw [if_neg (by omega), if_neg hi]
    · rw [if_neg (by omega)]
      obtain ⟨k, rfl⟩ : ∃ k, j = 512 + k := ⟨j - 512, by omega⟩
      rw [show 1 + (512 + k) = 513 + k by omega, pcells_tail hl k, pcells_tail h k]

/-- the bytes that lie in the ring behind a Put -/
theorem put_ring (ring q data : List Int) (at_ n k pos : Nat) (h1 : ring.length = 512) (h2 : at_ < 512) (h4 : ∀ i, i < q.length → ring[(at_ + i) % 512]? = q[i]?) (hn : n ≤ data.length) (hq : q.length + n ≤ 512)
    (hp : pos = (at_ + q.length) % 512) (hk : k = min (512 - pos) n) (i : Nat) (hi : i < (q ++ data.take n).length) :
    (splice (splice ring pos (data.take k)) 0 ((data.take n).drop k))[(at_ + i) % 512]? = (q ++ data.take n)[i]? := by
  have e1 : (data.take k).length = k := by simp; omega
  have e2 : ((data.take n).drop k).length = n - k := by simp; omega
  have hpl : pos < 512 := by rw [hp]; exact Nat.mod_lt _ (by omega)
  have e3 : (splice ring pos (data.take k)).length = 512 := by rw [length_splice _ _ _ (by rw [e1]; omega), h1]
  have hi2 : i < q.length + n := by simp at hi; omega
  rw [splice_get _ _ _ (by rw [e2, e3]; omega), e2, splice_get _ _ _ (by rw [e1, h1]; omega), e1]
  by_cases hi3 : i < q.length
  · rw [List.getElem?_append_left hi3, ← h4 i hi3, if_neg, if_neg]
    · omega
    · omega
  · rw [List.getElem?_append_right (by omega)]
    by_cases hw : i - q.length < k
    · rw [if_neg, if_pos, List.getElem?_take, if_pos, List.getElem?_take, if_pos]
      · congr 1; omega
      · omega
      · omega
      · omega
      · omega
    · rw [if_pos, List.getElem?_drop]
      · congr 1; omega
      · omega

/-- how many bytes a Put puts -/
def putK (data q : List Int) (sr : Bool) : Nat := if data = [] ∨ sr = true then 0 else min data.length (512 - q.length)
/-- what a Put tells -/
def putHow (data q : List Int) (sr : Bool) : Int := if data = [] then 1 else if sr = true then 3 else if putK data q sr < data.length then 2 else 1

theorem put_fr (w : World) (b : Nat) (x y : Value) : Fr (· = b) w ((w.setCell ⟨b, 514, none⟩ x).setCell ⟨b, 516, none⟩ y) :=
  ((Fr.refl (· = b) w).setCell (p := ⟨b, 514, none⟩) (fun _ => rfl) x).setCell (p := ⟨b, 516, none⟩) (fun _ => rfl) y

theorem put_stores {w : World} {b at_ n : Nat} {q data R : List Int} {rd wr : Int} {sw : Bool} (hr : 0 ≤ rd ∧ rd < 4294967296 ∧ 0 ≤ wr ∧ wr < 4294967296) (h1 : R.length = 512) (h2 : at_ < 512) (hn : n ≤ data.length)
    (hq : q.length + n ≤ 512) (h4 : ∀ i, i < (q ++ data.take n).length → R[(at_ + i) % 512]? = (q ++ data.take n)[i]?) (hb : Blk w b (pcells R at_ q.length rd wr false sw) 47) (y z : Int)
    (hy : y = (q.length + n : Nat)) (hz : z = (wr + n) % 4294967296) :
    PipeAt ((w.setCell ⟨b, 514, none⟩ (.int .i64 y)).setCell ⟨b, 516, none⟩ (.int .u32 z)) b (q ++ data.take n) rd ((wr + n) % 4294967296) false sw := by
  have e0 : (q ++ data.take n).length = q.length + n := by simp; omega
  refine ⟨by omega, R, at_, h1, h2, by omega, h4, ?_⟩
  have := (hb.set 514 (.int .i64 y)).set 516 (.int .u32 z)
  subst hy hz
  rw [pcells_set h1 1] at this
  have e : (Value.bool true :: R.map (Value.int .u8)).length = 513 := by simp [h1]
  rw [List.set_append_right _ _ (by rw [e]; omega), e] at this
  rw [e0]
  simpa [pcells] using this

/-- behind a Put that put nothing -/
theorem PipeAt.same2 {w : World} {b : Nat} {q data : List Int} {rd wr : Int} {sr sw : Bool} (h : PipeAt w b q rd wr sr sw) : PipeAt w b (q ++ data.take 0) rd ((wr + (0 : Nat)) % 4294967296) sr sw := by
  have e : (wr + (0 : Nat)) % 4294967296 = wr := by have := h.1; simp; omega
  rw [e]; simpa using h

set_option maxRecDepth 100000 in
set_option maxHeartbeats 3200000 in
theorem put_calls (b : Nat) (q data : List Int) (rd wr : Int) (sr sw : Bool) (v : Value) (w : World) (h : PipeAt w b q rd wr sr sw) (hd : BSl w v data) (hoff : v.ownBlock ≠ some b) :
    Calls Try.prog 19 #[.pointer (some ⟨b, 0, none⟩), v] w fun e w' => e = .returned (.tuple #[.int .i64 (putK data q sr), .int .i64 (putHow data q sr)]) ∧
      PipeAt w' b (q ++ data.take (putK data q sr)) rd ((wr + (putK data q sr : Nat)) % 4294967296) sr sw ∧ Fr (· = b) w w' := by
  obtain ⟨c0, c1, c2, c3, c4, c5⟩ := state_cells h
  obtain ⟨ao, cc, rfl, l1, l2, l3, hcell⟩ := hd
  by_cases hde : data = []
  · subst hde
    have HP := Lib.hid h; clear h
    clear hcell
    go_enter Try.func19, Try.ntmps19
    go_wp2_with (go_at_call 35; refine (is_calls b _ c0).mono ?_; rintro e w' ⟨rfl, rfl⟩)
    go_ret2
    have e : putK [] q sr = 0 := by simp [putK]
    rw [e]
    exact ⟨by simp [putHow], HP.out.same2, Fr.refl _ _⟩
  · have hlen : 0 < data.length := List.length_pos_iff.2 hde
    have hz : ((data.length : Int) == 0) = false := by simp; omega
    cases sr
    · have hl512 := h.bound
      obtain ⟨hr, ring, at_, h1, h2, h3, h4, hb⟩ := h
      have c6 : w.cell? ⟨b, 513, none⟩ = some (.int .i64 at_) := (hb.cell 513).trans (pcells_tail h1 0)
      obtain ⟨bb, oo, rfl, hcell2⟩ := hcell hde
      clear hcell
      have hcell := hcell2
      clear hcell2
      have hoff : bb ≠ b := fun e => hoff (by rw [e]; rfl)
      obtain ⟨n, hn⟩ : ∃ n, n = putK data q false := ⟨_, rfl⟩
      have hn2 : n = min data.length (512 - q.length) := by rw [hn]; simp [putK, hde]
      have hhow : putHow data q false = if n < data.length then 2 else 1 := by rw [hn]; simp [putHow, hde]
      rw [hhow, ← hn]
      have HN := Lib.hid hn2
      have hn3 : n ≤ data.length := by omega
      have hn4 : q.length + n ≤ 512 := by omega
      clear hn2 hn hhow
      have HC := Lib.hid hcell
      clear hcell
      obtain ⟨pos, hpos⟩ : ∃ pos, pos = (at_ + q.length) % 512 := ⟨_, rfl⟩
      have w1 : IntKind.i64.wrap ((at_ : Int) + (q.length : Int)) = (at_ : Int) + (q.length : Int) := IntWalk.i64_in _ (by omega)
      have w2 : ((at_ : Int) + (q.length : Int)).tmod 512 = (pos : Int) := by rw [Int.tmod_eq_emod_of_nonneg (by omega)]; omega
      have w3 : (0 : Int) ≤ (pos : Int) := by omega
      have w4 : (pos : Int) ≤ 512 := by omega
      have w5 : ¬ 512 = pos := by omega
      have w6 : (0 : Int) ≤ (n : Int) := by omega
      have w7 : (n : Int) ≤ (cc : Int) := by omega
      have w8 : ¬ cc = 0 := by omega
      -- the two pieces that go over
      obtain ⟨k, hk⟩ : ∃ k, k = min (512 - pos) n := ⟨_, rfl⟩
      obtain ⟨X1, hX1⟩ : ∃ X1, X1 = (data.take k).map (Value.int .u8) := ⟨_, rfl⟩
      obtain ⟨X2, hX2⟩ : ∃ X2, X2 = ((data.take n).drop k).map (Value.int .u8) := ⟨_, rfl⟩
      have L1 := Lib.hid (show X1.length = k by rw [hX1]; simp; omega)
      have L2 := Lib.hid (show X2.length = n - k by rw [hX2]; simp; omega)
      have Hx1 := Lib.hid (show ∀ j u, X1[j]? = some u → w.cell? ⟨bb, oo + j, none⟩ = some u by
        intro j u hj
        have hj2 : j < k := by rw [← L1.out]; exact (List.getElem?_eq_some_iff.1 hj).1
        rw [HC.out j (by omega)]
        rw [hX1, List.getElem?_map, List.getElem?_take, if_pos hj2, List.getElem?_eq_getElem (show j < data.length by omega)] at hj
        simpa [List.getElem?_eq_getElem (show j < data.length by omega)] using hj)
      have Hx2 := Lib.hid (show ∀ j u, X2[j]? = some u → w.cell? ⟨bb, oo + k + j, none⟩ = some u by
        intro j u hj
        have hj2 : j < n - k := by rw [← L2.out]; exact (List.getElem?_eq_some_iff.1 hj).1
        rw [Nat.add_assoc, HC.out (k + j) (by omega)]
        rw [hX2, List.getElem?_map, List.getElem?_drop, List.getElem?_take, if_pos (by omega), List.getElem?_eq_getElem (show k + j < data.length by omega)] at hj
        simpa [List.getElem?_eq_getElem (show k + j < data.length by omega)] using hj)
      have w9 : (0 : Int) ≤ (k : Int) := by omega
      have w10 : (k : Int) ≤ (n : Int) := by omega
      have HX1 := Lib.hid hX1; clear hX1
      have HX2 := Lib.hid hX2; clear hX2
      have HK := Lib.hid hk; clear hk
      have HPOS := Lib.hid hpos; clear hpos
      have HD := Lib.hid hde; clear hde
      have HB := Lib.hid hb; clear hb
      have H1 := Lib.hid h1; clear h1
      have H4 := Lib.hid h4; clear h4
      go_enter Try.func19, Try.ntmps19
      go_wp2_with (go_at_call 35; refine (is_calls b _ c0).mono ?_; rintro e w' ⟨rfl, rfl⟩)
      all_goals
        first
          | rw [show (512 - (q.length : Int)) = (n : Int) by have := HN.out; omega]
          | rw [show (data.length : Int) = (n : Int) by have := HN.out; omega]
        go_still_tail 17, (by kernel_rfl)
        change wpList _ _ _ _ _ w.drew
        obtain ⟨W, hW⟩ : ∃ W : World, W = w.drew := ⟨_, rfl⟩
        rw [← hW]
        have hFW : Fr No w W := by rw [hW]; exact (Fr.refl _ _).drew
        clear hW
        have HFW := Lib.hid hFW; clear hFW
        refine wpList_copy_fr rfl (.tmp 42) (.tmp 45) 34 34 rfl 5 Try.underlying34 (by kernel_rfl) _ _ _ _ _ _ rfl rfl b (1 + pos) (pcells ring at_ q.length rd wr false sw) 47 (HB.out.fr HFW.out id) X1 ?hn ?hps ?hfit ?h1 ?_
        case hn => rw [L1.out, HK.out]; omega
        case hps => exact fun _ => ⟨rfl, _, rfl, fun j u hj => by
          have := HFW.out.cell (Hx1.out j u hj) id
          cases j with
          | zero => simpa [Addr.add] using this
          | succ j => simpa [Addr.add] using this⟩
        case hfit => rw [L1.out, HK.out]; simp [pcells, H1.out]; omega
        case h1 => rw [HX1.out]; exact ints_oneCell _ _
        intro w2 hG2 hF2
        have HF2 := Lib.hid hF2; clear hF2
        rw [L1.out]
        go_wp2
        go_still_tail 8, (by kernel_rfl)
        change wpList _ _ _ _ _ w2.drew
        obtain ⟨W2, hW2⟩ : ∃ W2 : World, W2 = w2.drew := ⟨_, rfl⟩
        rw [← hW2]
        have hFW2 : Fr No w2 W2 := by rw [hW2]; exact (Fr.refl _ _).drew
        clear hW2
        have HFW2 := Lib.hid hFW2; clear hFW2
        refine wpList_copy_fr rfl (.tmp 50) (.tmp 54) 34 34 rfl 5 Try.underlying34 (by kernel_rfl) _ _ _ _ _ _ rfl rfl b 1 (splice (pcells ring at_ q.length rd wr false sw) (1 + pos) X1) 47 (hG2.out.fr HFW2.out id) X2 ?hn ?hps ?hfit ?h1 ?_
        case hn => rw [L2.out]; have := HK.out; omega
        case hps => exact fun hp => ⟨rfl, _, (by rw [if_neg (by have := L2.out; omega)]), fun j u hj => by
          have := HFW2.out.cell (HF2.out.cell (HFW.out.cell (Hx2.out j u hj) id) hoff) id
          cases j with
          | zero => simpa [Addr.add] using this
          | succ j => simpa [Addr.add, Nat.add_assoc] using this⟩
        case hfit => rw [L2.out, length_splice _ _ _ (by rw [L1.out, HK.out]; simp [pcells, H1.out]; omega)]; simp [pcells, H1.out]; omega
        case h1 => rw [HX2.out]; exact ints_oneCell _ _
        intro w3 hG3 hF3
        have hfr : Fr (· = b) w w3 := (((HFW.out.mono (S' := (· = b)) (fun _ h => h.elim)).trans HF2.out (fun _ _ h => h)).trans HFW2.out (fun _ _ h => h.elim)).trans hF3 (fun _ _ h => h)
        clear hF3
        have HFR := Lib.hid hfr; clear hfr
        have hd1 : (data.take k).length = k := by simp; have := HK.out; omega
        have hd2 : ((data.take n).drop k).length = n - k := by simp; omega
        have hblk : Blk w3 b (pcells (splice (splice ring pos (data.take k)) 0 ((data.take n).drop k)) at_ q.length rd wr false sw) 47 := by
          have := hG3.out
          rw [HX1.out, HX2.out, pcells_splice H1.out pos _ (by have := HK.out; omega), show (1 : Nat) = 1 + 0 from rfl,
            pcells_splice (by rw [length_splice _ _ _ (by rw [hd1, H1.out]; have := HK.out; omega), H1.out]) 0 _ (by omega)] at this
          exact this
        obtain ⟨R, hR⟩ : ∃ R, R = splice (splice ring pos (data.take k)) 0 ((data.take n).drop k) := ⟨_, rfl⟩
        rw [← hR] at hblk
        have hR1 : R.length = 512 := by
          have := HK.out
          rw [hR, length_splice, length_splice, H1.out]
          · rw [hd1, H1.out]; omega
          · rw [hd2, length_splice, H1.out]
            · omega
            · rw [hd1, H1.out]; omega
        have hR2 : ∀ i, i < (q ++ data.take n).length → R[(at_ + i) % 512]? = (q ++ data.take n)[i]? := fun i hi => by
          rw [hR]; exact put_ring ring q data at_ n k pos H1.out h2 H4.out hn3 hn4 HPOS.out HK.out i hi
        clear hR hd1 hd2
        have HR1 := Lib.hid hR1; clear hR1
        have HR2 := Lib.hid hR2; clear hR2
        have k1 : w3.cell? ⟨b, 514, none⟩ = some (.int .i64 q.length) := (hblk.cell 514).trans (pcells_tail HR1.out 1)
        have k3 : w3.cell? ⟨b, 516, none⟩ = some (.int .u32 wr) := (hblk.cell 516).trans (pcells_tail HR1.out 3)
        have f1 := hblk.free 514
        have f3 := hblk.free 516
        have HBK := Lib.hid hblk; clear hblk
        clear c0 c1 c2 c3 c4 c5 c6
        first
          | (have hnd : n < data.length := by have := HN.out; omega
             go_wp2
             all_goals
               go_ret2
               refine ⟨by first | rfl | (rw [if_pos hnd]; rfl), put_stores hr HR1.out h2 hn3 hn4 HR2.out HBK.out _ _ (by omega) rfl, HFR.out.trans (put_fr w3 b _ _) (fun _ _ h => h)⟩)
          | (have hnd : ¬ n < data.length := by have := HN.out; omega
             go_wp2
             all_goals
               go_ret2
               refine ⟨by first | rfl | (rw [if_neg hnd]; rfl), put_stores hr HR1.out h2 hn3 hn4 HR2.out HBK.out _ _ (by omega) rfl, HFR.out.trans (put_fr w3 b _ _) (fun _ _ h => h)⟩)
    · have HP := Lib.hid h; clear h
      have HD := Lib.hid hde; clear hde
      clear hcell
      go_enter Try.func19, Try.ntmps19
      go_wp2_with (go_at_call 35; refine (is_calls b _ c0).mono ?_; rintro e w' ⟨rfl, rfl⟩)
      go_ret2
      have e : putK data q true = 0 := by simp [putK]
      rw [e]
      exact ⟨by simp [putHow, HD.out], HP.out.same2, Fr.refl _ _⟩

end Go.Proofs.Ytnfpjholmidnbaa
