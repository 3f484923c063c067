/- hartixlaw10's shelf: put. No condition. -/
import Derived.Test.YtnfpjholmidnbaaShelf
namespace Go.Proofs.Ytnfpjholmidnbaa
open Go.RowKit

theorem more_cases {ks ws : List Value} {l c v : Value} {i : Nat} (hl : ws.length = ks.length) (h : ((ks ++ [l]) ++ (ws ++ [c]))[i]? = some v) :
    (i < ks.length ∧ (ks ++ ws)[i]? = some v) ∨ (i = ks.length ∧ v = l) ∨ (ks.length < i ∧ i < 2 * ks.length + 1 ∧ (ks ++ ws)[i - 1]? = some v) ∨ (i = 2 * ks.length + 1 ∧ v = c) := by
  rw [List.getElem?_append] at h
  split at h
  · rename_i h1
    simp at h1
    rw [List.getElem?_append] at h
    split at h
    · rename_i h2
      exact .inl ⟨h2, by rw [List.getElem?_append_left h2]; exact h⟩
    · rename_i h2
      have : i = ks.length := by omega
      subst this
      simp at h
      exact .inr (.inl ⟨rfl, h.symm⟩)
  · rename_i h1
    simp at h1
    rw [List.getElem?_append] at h
    split at h
    · rename_i h2
      refine .inr (.inr (.inl ⟨by omega, by simp at h2; omega, ?_⟩))
      rw [List.getElem?_append_right (by omega)]
      simp at h
      rw [show i - 1 - ks.length = i - (ks.length + 1) by omega]
      exact h
    · rename_i h2
      simp at h2
      have h3 := (List.getElem?_eq_some_iff.1 h).1
      simp at h3
      have : i = 2 * ks.length + 1 := by omega
      subst this
      simp only [List.length_append, List.length_singleton, hl] at h
      rw [show 2 * ks.length + 1 - (ks.length + 1) - ks.length = 0 by omega] at h
      simp at h
      exact .inr (.inr (.inr ⟨rfl, h.symm⟩))

theorem more_distinct {ks ws : List Value} {l c : Value} (hd : Distinct (ks ++ ws)) (hl : ws.length = ks.length) (h1 : ∀ k, l.ownBlock = some k → ¬ SBlk (ks ++ ws) k) (h2 : ∀ k, c.ownBlock = some k → ¬ SBlk (ks ++ ws) k) (h3 : ∀ k, c.ownBlock = some k → l.ownBlock ≠ some k) :
    Distinct ((ks ++ [l]) ++ (ws ++ [c])) := by
  intro i j v v' hij hi hj k hk hk'
  rcases more_cases hl hi with ⟨a1, a2⟩ | ⟨a1, rfl⟩ | ⟨a1, a3, a2⟩ | ⟨a1, rfl⟩ <;> rcases more_cases hl hj with ⟨b1, b2⟩ | ⟨b1, rfl⟩ | ⟨b1, b3, b2⟩ | ⟨b1, rfl⟩
  · exact hd i j _ _ hij a2 b2 k hk hk'
  · exact h1 k hk' (SBlk.at_ a2 hk)
  · exact hd i (j - 1) _ _ (by omega) a2 b2 k hk hk'
  · exact h2 k hk' (SBlk.at_ a2 hk)
  · exact h1 k hk (SBlk.at_ b2 hk')
  · omega
  · exact h1 k hk (SBlk.at_ b2 hk')
  · exact h3 k hk' hk
  · omega
  · omega
  · exact hd (i - 1) (j - 1) _ _ (by omega) a2 b2 k hk hk'
  · exact h2 k hk' (SBlk.at_ a2 hk)
  · omega
  · omega
  · omega
  · omega

/-- what a put leaves -/
@[irreducible] def ShelfPost (base B : Nat) (kv wv : Value) (ks ws : List Value) (n : Nat) (l : Value) (w : World) (e : Ending) (w' : World) : Prop :=
  ∃ kv' wv' ks' ws' Y', e = .returned (.bool true) ∧ ShelfAt w' base B kv' wv' ks' ws' Y' (n + 1) ∧ (∀ k, ShFP B kv' wv' ks' ws' k → ShFP B kv wv ks ws k ∨ l.ownBlock = some k ∨ w.heap.size ≤ k) ∧
    Fr (fun k => ShFP B kv wv ks ws k ∨ l.ownBlock = some k) w w'

/-- two lists that grew -/
theorem ShelfAt.grow {w w1 w2 w3 w4 w5 : World} {base B : Nat} {kv wv kv' wv' l c : Value} {ks ws : List Value} {Y : Nat → List Int} {n : Nat} {xs : List Int} (h : ShelfAt w base B kv wv ks ws Y n) (hodd : (n + 1) % 2 = 0)
    (hl : Row 5 .u8 w base l xs) (hxs : xs.length ≤ 512) (hlo : ∀ k, l.ownBlock = some k → ¬ ShFP B kv wv ks ws k)
    (e1 : w1 = w.setCell ⟨B, 3, none⟩ (.int .i64 ((n : Int) + 1)))
    (a1 : w2.ownsRow base 34 1 kv' (ks.length + 1) (ks ++ [l])) (a2 : Fr (fun k => kv.ownBlock = some k ∧ kv'.ownBlock = some k) w1 w2) (a3 : ∀ k, kv'.ownBlock = some k → kv.ownBlock = some k ∨ w.heap.size ≤ k)
    (e3 : w3 = w2.setCell ⟨B, 1, none⟩ kv')
    (c1 : Row 5 .u8 w4 w3.heap.size c xs) (c2 : Fr No w3 w4)
    (b1 : w5.ownsRow base 34 1 wv' (ks.length + 1) (ws ++ [c])) (b2 : Fr (fun k => wv.ownBlock = some k ∧ wv'.ownBlock = some k) w4 w5) (b3 : ∀ k, wv'.ownBlock = some k → wv.ownBlock = some k ∨ w4.heap.size ≤ k) :
    ShelfPost base B kv wv ks ws n l w (.returned (.bool true)) (w5.setCell ⟨B, 2, none⟩ wv') := by
  have hwl : ws.length = ks.length := by have := h.was.1; omega
  have hBl := h.blk.lt
  have s1 : w1.heap.size = w.heap.size := by rw [e1]; simp
  have s2 := a2.size
  have s3 : w3.heap.size = w2.heap.size := by rw [e3]; simp
  have s4 := c2.size
  have s5 := b2.size
  have F1 : Fr (· = B) w w1 := by rw [e1]; exact (Fr.refl (· = B) w).setCell (p := ⟨B, 3, none⟩) (fun _ => rfl) _
  have F3 : Fr (· = B) w2 w3 := by rw [e3]; exact (Fr.refl (· = B) w2).setCell (p := ⟨B, 1, none⟩) (fun _ => rfl) _
  have F6 : Fr (· = B) w5 (w5.setCell ⟨B, 2, none⟩ wv') := (Fr.refl (· = B) w5).setCell (p := ⟨B, 2, none⟩) (fun _ => rfl) _
  have hkB : ∀ k, kv.ownBlock = some k → k ≠ B := blk_row_ne h.blk h.kept (by decide)
  have hwB : ∀ k, wv.ownBlock = some k → k ≠ B := blk_row_ne h.blk h.was (by decide)
  have hkl : ∀ k, kv.ownBlock = some k → k < w.heap.size := fun k hk => (h.kept.lt k hk).2
  have hwl' : ∀ k, wv.ownBlock = some k → k < w.heap.size := fun k hk => (h.was.lt k hk).2
  have hkB' : ∀ k, kv'.ownBlock = some k → k ≠ B := fun k hk => by
    rcases a3 k hk with h1 | h1
    · exact hkB k h1
    · omega
  have hwB' : ∀ k, wv'.ownBlock = some k → k ≠ B := fun k hk => by
    rcases b3 k hk with h1 | h1
    · exact hwB k h1
    · omega
  -- from the start to the end
  have m1 : Fr (fun k => k = B ∨ kv.ownBlock = some k ∨ wv.ownBlock = some k) w w1 := F1.mono (fun k hk => .inl hk)
  have m2 : Fr (fun k => k = B ∨ kv.ownBlock = some k ∨ wv.ownBlock = some k) w1 w2 := a2.mono (fun k hk => .inr (.inl hk.1))
  have m3 : Fr (fun k => k = B ∨ kv.ownBlock = some k ∨ wv.ownBlock = some k) w2 w3 := F3.mono (fun k hk => .inl hk)
  have m4 : Fr (fun k => k = B ∨ kv.ownBlock = some k ∨ wv.ownBlock = some k) w3 w4 := c2.mono (fun k hk => hk.elim)
  have m5 : Fr (fun k => k = B ∨ kv.ownBlock = some k ∨ wv.ownBlock = some k) w4 w5 := b2.mono (fun k hk => .inr (.inr hk.1))
  have m6 : Fr (fun k => k = B ∨ kv.ownBlock = some k ∨ wv.ownBlock = some k) w5 (w5.setCell ⟨B, 2, none⟩ wv') := F6.mono (fun k hk => .inl hk)
  have t2 := m1.trans m2 (fun _ _ h => h)
  have t3 := t2.trans m3 (fun _ _ h => h)
  have t4 := t3.trans m4 (fun _ _ h => h)
  have t5 := t4.trans m5 (fun _ _ h => h)
  have FT := t5.trans m6 (fun _ _ h => h)
  have u3 := (m4.trans m5 (fun _ _ h => h)).trans m6 (fun _ _ h => h)
  -- what lies elsewhere stays
  have hrow : ∀ {v : Value} {ys : List Int}, Row 5 .u8 w base v ys → Row 5 .u8 (w5.setCell ⟨B, 2, none⟩ wv') base v ys := fun {v ys} hv => row_fr hv FT (fun k hk hh => by
    rcases hh with h1 | h1 | h1
    · exact blk_row_ne h.blk hv (by decide) k hk h1
    · exact row_apart hv h.kept (by decide) k hk h1
    · exact row_apart hv h.was (by decide) k hk h1)
  have hck : ∀ k, c.ownBlock = some k → w3.heap.size ≤ k := fun k hk => (c1.lt k hk).1
  have hcrow : Row 5 .u8 (w5.setCell ⟨B, 2, none⟩ wv') base c xs := by
    have hc2 : Row 5 .u8 (w5.setCell ⟨B, 2, none⟩ wv') w3.heap.size c xs := row_fr c1 (b2.mono (S' := fun k => wv.ownBlock = some k ∨ k = B) (fun k hk => .inl hk.1) |>.trans (F6.mono (S' := fun k => wv.ownBlock = some k ∨ k = B) (fun k hk => .inr hk)) (fun _ _ h => h)) (fun k hk hh => by
      have := hck k hk
      rcases hh with h1 | h1
      · have := hwl' k h1; omega
      · omega)
    obtain ⟨hl0, hh | ⟨g, cap, cur, hv, hg, rest⟩⟩ := hc2
    · exact ⟨hl0, .inl hh⟩
    · exact ⟨hl0, .inr ⟨g, cap, cur, hv, by have := h.hbase; omega, rest⟩⟩
  have hkept : (w5.setCell ⟨B, 2, none⟩ wv').ownsRow base 34 1 kv' (ks.length + 1) (ks ++ [l]) := by
    refine row_fr (row_fr (row_fr (row_fr a1 F3 (fun k hk hh => hkB' k hk hh)) c2 (fun _ _ h => h)) b2 (fun k hk hh => ?_)) F6 (fun k hk hh => hkB' k hk hh)
    rcases a3 k hk with h1 | h1
    · exact h.two k h1 hh.1
    · have := hwl' k hh.1; omega
  have hwas : (w5.setCell ⟨B, 2, none⟩ wv').ownsRow base 34 1 wv' (ks.length + 1) (ws ++ [c]) := row_fr b1 F6 (fun k hk hh => hwB' k hk hh)
  have hSl : ∀ k, SBlk (ks ++ ws) k → k < w.heap.size := fun k hk => h.lt k (.inr (.inr (.inr hk)))
  have hblk : Blk (w5.setCell ⟨B, 2, none⟩ wv') B [.slice none 0 0, kv', wv', .int .i64 ((n : Int) + 1)] 33 := by
    have p1 : Blk w1 B [.slice none 0 0, kv, wv, .int .i64 ((n : Int) + 1)] 33 := by rw [e1]; simpa using h.blk.set 3 (.int .i64 ((n : Int) + 1))
    have p2 := p1.fr a2 (fun hh => hkB B hh.1 rfl)
    have p3 : Blk w3 B [.slice none 0 0, kv', wv, .int .i64 ((n : Int) + 1)] 33 := by rw [e3]; simpa using p2.set 1 kv'
    have p5 := (p3.fr c2 id).fr b2 (fun hh => hwB B hh.1 rfl)
    simpa using p5.set 2 wv'
  have hll : l.ownBlock = none ∨ ∃ g, l.ownBlock = some g ∧ g < w.heap.size := by
    cases hlb : l.ownBlock with
    | none => exact .inl rfl
    | some g => exact .inr ⟨g, rfl, (hl.lt g hlb).2⟩
  have hwsl : w.heap.size ≤ w3.heap.size := by omega
  unfold ShelfPost
  refine ⟨kv', wv', ks ++ [l], ws ++ [c], fun j => if j = ks.length then xs else Y j, rfl, ⟨?_, ?_, by simpa using hkept, by simpa [hwl] using hwas, by have := h.half; simp; omega, fun j v hj => ?_, fun j v hj => ?_, ?_, fun g hg hg' => ?_⟩, fun k hk => ?_, FT.mono (fun k hk => ?_)⟩
  · have := h.hbase; simp; omega
  · simpa using hblk
  · rw [List.getElem?_append] at hj
    split at hj
    · rename_i hlt
      have := h.krow j v hj
      simp only [show ¬ j = ks.length by omega, if_false]
      exact ⟨hrow this.1, this.2⟩
    · rename_i hge
      have hj1 := (List.getElem?_eq_some_iff.1 hj).1
      simp at hj1
      have : j = ks.length := by omega
      subst this
      simp at hj
      subst hj
      simp only [if_true]
      exact ⟨hrow hl, hxs⟩
  · rw [List.getElem?_append] at hj
    split at hj
    · rename_i hlt
      have := h.wrow j v hj
      simp only [show ¬ j = ks.length by omega, if_false]
      exact hrow this
    · rename_i hge
      have hj1 := (List.getElem?_eq_some_iff.1 hj).1
      simp at hj1
      have : j = ks.length := by omega
      subst this
      rw [hwl, Nat.sub_self] at hj
      simp at hj
      subst hj
      simp only [if_true]
      exact hcrow
  · refine more_distinct h.dist hwl (fun k hk hs => hlo k hk (.inr (.inr (.inr hs)))) (fun k hk hs => by have := hSl k hs; have := hck k hk; omega) (fun k hk hh => by have := hck k hk; have := (hl.lt k hh).2; omega)
  · rcases a3 g hg with h1 | h1 <;> rcases b3 g hg' with h2 | h2
    · exact h.two g h1 h2
    · have := hkl g h1; omega
    · have := hwl' g h2; omega
    · have := (a1.lt g hg).2; omega
  · rcases hk with rfl | hk | hk | ⟨v, hv, hvk⟩
    · exact .inl (.inl rfl)
    · rcases a3 k hk with h1 | h1
      · exact .inl (.inr (.inl h1))
      · exact .inr (.inr h1)
    · rcases b3 k hk with h1 | h1
      · exact .inl (.inr (.inr (.inl h1)))
      · exact .inr (.inr (by omega))
    · rcases List.mem_append.1 hv with hv | hv <;> rcases List.mem_append.1 hv with hv | hv
      · exact .inl (.inr (.inr (.inr ⟨v, List.mem_append_left _ hv, hvk⟩)))
      · simp at hv; subst hv; exact .inr (.inl hvk)
      · exact .inl (.inr (.inr (.inr ⟨v, List.mem_append_right _ hv, hvk⟩)))
      · simp at hv; subst hv; exact .inr (.inr (by have := hck k hvk; omega))
  · rcases hk with h1 | h1 | h1
    · exact .inl (.inl h1)
    · exact .inl (.inr (.inl h1))
    · exact .inl (.inr (.inr (.inl h1)))

/-- a list of one, as it is built for Free -/
theorem one_list {w : World} {base : Nat} {l : Value} {xs : List Int} (hl : Row 5 .u8 w base l xs) : Rows' 5 .u8 [l] base w (fun _ => xs) ∧ Distinct [l] := by
  refine ⟨fun j v hj => ?_, fun i j v v' hij hi hj k _ => ?_⟩
  · have := (List.getElem?_eq_some_iff.1 hj).1
    simp at this
    subst this
    simp at hj
    subst hj
    exact hl
  · have := (List.getElem?_eq_some_iff.1 hj).1
    simp at this
    omega

set_option maxRecDepth 100000 in
set_option maxHeartbeats 3200000 in
theorem shelfput_calls (base B : Nat) (kv wv : Value) (ks ws : List Value) (Y : Nat → List Int) (n : Nat) (l : Value) (xs : List Int) (w : World) (h : ShelfAt w base B kv wv ks ws Y n) (hl : Row 5 .u8 w base l xs) (hxs : xs.length ≤ 512) (hlo : ∀ k, l.ownBlock = some k → ¬ ShFP B kv wv ks ws k)
    (hn : (n / 2 + 1) * 24 ≤ 140737488355328) (hn2 : n ≤ 4611686018427387904) :
    Calls Try.prog 33 #[.pointer (some ⟨B, 0, none⟩), l] w (ShelfPost base B kv wv ks ws n l w) := by
  obtain ⟨i34, hi34, hy0, hy1, hy2⟩ := info_parts info34
  obtain ⟨lo, lc, rfl, _⟩ := row_shape hl
  obtain ⟨ko, kc, rfl, _⟩ := row_shape h.kept
  obtain ⟨wo, wc, rfl, _⟩ := row_shape h.was
  have c1 : w.cell? ⟨B, 1, none⟩ = some (.slice ko ks.length kc) := h.blk.cell 1
  have c2 : w.cell? ⟨B, 2, none⟩ = some (.slice wo ks.length wc) := h.blk.cell 2
  have c3 : w.cell? ⟨B, 3, none⟩ = some (.int .i64 n) := h.blk.cell 3
  have f1 := h.blk.free 1
  have f2 := h.blk.free 2
  have f3 := h.blk.free 3
  have hBl := h.blk.lt
  have hbase := h.hbase
  have hkl := h.half
  have hks : (ks.length + 1) * 24 ≤ 140737488355328 := by rw [hkl]; exact hn
  have HKL := Lib.hid hkl; clear hkl
  have H := Lib.hid h; clear h
  have HL := Lib.hid hl; clear hl
  have HLO := Lib.hid hlo; clear hlo
  by_cases hpar : (n + 1) % 2 = 0
  · have hp1 : ((n : Int) + 1) % 2 = 0 := by omega
    have hp2 : IntKind.i64.wrap ((n : Int) + 1) = (n : Int) + 1 := IntWalk.i64_in _ (by omega)
    have HPAR := Lib.hid hpar; clear hpar
    go_enter Try.func33, Try.ntmps33
    have F1 : Fr (· = B) w (w.setCell ⟨B, 3, none⟩ (.int .i64 ((n : Int) + 1))) := (Fr.refl (· = B) w).setCell (p := ⟨B, 3, none⟩) (fun _ => rfl) _
    have hkB := blk_row_ne H.out.blk H.out.kept (by decide)
    have hwB := blk_row_ne H.out.blk H.out.was (by decide)
    have HK1 := Lib.hid (row_fr H.out.kept F1 (fun k hk hh => hkB k hk hh))
    have HW1 := Lib.hid (row_fr H.out.was F1 (fun k hk hh => hwB k hk hh))
    have HL1 := Lib.hid (row_fr HL.out F1 (fun k hk hh => HLO.out k hk (.inl hh)))
    have z1 : (w.setCell ⟨B, 3, none⟩ (.int .i64 ((n : Int) + 1))).cell? ⟨B, 1, none⟩ = some (.slice ko ks.length kc) := (H.out.blk.set 3 (.int .i64 ((n : Int) + 1))).cell 1
    have z2 : (w.setCell ⟨B, 3, none⟩ (.int .i64 ((n : Int) + 1))).cell? ⟨B, 2, none⟩ = some (.slice wo ks.length wc) := (H.out.blk.set 3 (.int .i64 ((n : Int) + 1))).cell 2
    have y1 := (H.out.blk.set 3 (.int .i64 ((n : Int) + 1))).free 1
    have y2 := (H.out.blk.set 3 (.int .i64 ((n : Int) + 1))).free 2
    have hs1 : (w.setCell ⟨B, 3, none⟩ (.int .i64 ((n : Int) + 1))).heap.size = w.heap.size := by simp
    have HKB := Lib.hid hkB; clear hkB
    have HWB := Lib.hid hwB; clear hwB
    have HF1 := Lib.hid F1; clear F1
    go_wp2_with (at_builtin; refine wpList_append_one rfl _ _ 31 rfl base 34 i34 (.slice none 0 0) 24 Try.underlying31 hi34 hy0 hy1 hy2 rfl (.slice ko ks.length kc) ks.length ks rfl (HK1.out.alloc _) w.heap.size 1 (.slice lo xs.length lc) rfl ?cell rfl ?h63 ?hby ?hba ?_)
    case cell =>
      have := (Blk.new (w.setCell ⟨B, 3, none⟩ (.int .i64 ((n : Int) + 1))) [Value.slice lo xs.length lc] 34).cell 0
      rw [hs1] at this
      exact this
    case h63 => unfold maxLen; omega
    case hby => exact hks
    case hba => simp; omega
    intro v' w2 n1 n2 n3
    obtain ⟨ka, kcc, rfl, _⟩ := row_shape n1
    have a2 := ((Fr.refl _ (w.setCell ⟨B, 3, none⟩ (.int .i64 ((n : Int) + 1)))).alloc _).trans n2 (fun _ _ h => h)
    have a3 : ∀ k, (Value.slice ka (ks.length + 1) kcc).ownBlock = some k → (Value.slice ko ks.length kc).ownBlock = some k ∨ w.heap.size ≤ k := fun k hk => by
      rcases n3 k hk with h1 | h1
      · exact .inl h1
      · have h2 : w.heap.size + 1 ≤ k := by simpa using h1
        exact .inr (by omega)
    have x1 := a2.cell z1 (fun hh => HKB.out B hh.1 rfl)
    have x2 := a2.cell z2 (fun hh => HKB.out B hh.1 rfl)
    have hb2 := (H.out.blk.set 3 (.int .i64 ((n : Int) + 1))).fr a2 (fun hh => HKB.out B hh.1 rfl)
    have v1 := hb2.free 1
    have v2 := hb2.free 2
    have F3 : Fr (· = B) w2 (w2.setCell ⟨B, 1, none⟩ (.slice ka (ks.length + 1) kcc)) := (Fr.refl (· = B) w2).setCell (p := ⟨B, 1, none⟩) (fun _ => rfl) _
    have hs2 := a2.size
    have hW2 := row_fr HW1.out a2 (fun k hk hh => H.out.two k hh.1 hk)
    have hW3 := row_fr hW2 F3 (fun k hk hh => HWB.out k hk hh)
    have hL3 := row_fr (row_fr HL1.out a2 (fun k hk hh => HLO.out k hk (.inr (.inl hh.1)))) F3 (fun k hk hh => HLO.out k hk (.inl hh))
    have hb3 := hb2.set 1 (.slice ka (ks.length + 1) kcc)
    have q2 : (w2.setCell ⟨B, 1, none⟩ (.slice ka (ks.length + 1) kcc)).cell? ⟨B, 2, none⟩ = some (.slice wo ks.length wc) := hb3.cell 2
    have r2 := hb3.free 2
    have A1 := Lib.hid n1
    have A2 := Lib.hid a2
    have A3 := Lib.hid a3
    have HW3 := Lib.hid hW3
    have HBS := Lib.hid (BSl.of_own hL3 (by omega))
    have HB3 := Lib.hid hb3
    clear n1 n2 n3 a2 a3 hW2 hW3 hL3 hb2 hb3 F3 c1 c2 c3 f1 f2 f3
    go_wp2_with fail
    obtain ⟨w3, hw3⟩ : ∃ w3, w3 = w2.setCell ⟨B, 1, none⟩ (.slice ka (ks.length + 1) kcc) := ⟨_, rfl⟩
    have hs3 : w3.heap.size = w2.heap.size := by rw [hw3]; simp
    rw [← hw3] at HW3 HBS HB3 q2 r2 ⊢
    have HE3 := Lib.hid hw3; clear hw3
    have hBl3 : B < w3.heap.size := HB3.out.lt
    have hb3s : base ≤ w3.heap.size := by omega
    clear z1 z2 y1 y2 x1 x2 v1 v2
    go_region_law (first
      | (refine step_append_one rfl (.tmp 32) (.tmp 35) 31 rfl base 34 i34 (.slice none 0 0) 24 Try.underlying31 hi34 hy0 hy1 hy2 rfl (.slice wo ks.length wc) ks.length ws rfl (HW4.out.alloc _) w4.heap.size 1 (.slice ca xs.length cc) rfl ((Blk.new w4 [Value.slice ca xs.length cc] 34).cell 0) rfl (by unfold maxLen; omega) hks (by simp; omega) ?_
         intro v' w5 n1 n2 n3
         obtain ⟨wa, wcc, rfl, _⟩ := row_shape n1
         have b2 := ((Fr.refl _ w4).alloc _).trans n2 (fun _ _ h => h)
         have p2 := b2.cell q4 (fun hh => HWB.out B hh.1 rfl)
         have hb5 := (HB3.out.fr HF4.out id).fr b2 (fun hh => HWB.out B hh.1 rfl)
         have p3 := hb5.free 2
         have B1 := Lib.hid n1
         have B2 := Lib.hid b2
         have B3 := Lib.hid (show ∀ k, (Value.slice wa (ks.length + 1) wcc).ownBlock = some k → (Value.slice wo ks.length wc).ownBlock = some k ∨ w4.heap.size ≤ k from fun k hk => by
           rcases n3 k hk with h1 | h1
           · exact .inl h1
           · have h2 : w4.heap.size + 1 ≤ k := by simpa using h1
             exact .inr (by omega))
         clear n1 n2 n3 b2 hb5)
      | (go_simp
         go_at_call 25
         refine (copyBytes_calls xs _ _ (HBS.out.no (Fr.refl No w3).drew)).mono ?_
         rintro e w4 ⟨v4, rfl, hown, hbel⟩
         obtain ⟨ca, cc, rfl⟩ := hown.shape
         have hf4 : Fr No w3 w4 := (Fr.refl No w3).drew.trans (Fr.of_below hbel) (fun _ _ h => h)
         have q4 := hf4.cell q2 id
         have hs4 := hf4.size
         have hB4 : B < w4.heap.size := by omega
         have hB5 : w4.heap.size ≠ B := by omega
         have hB6 : B ≠ w4.heap.size := by omega
         have q5 : ∀ o, (w4.alloc o).cell? ⟨B, 2, none⟩ = some (.slice wo ks.length wc) := fun o => ((Fr.refl No w4).alloc o).cell q4 id
         have HW4 := Lib.hid (row_fr HW3.out hf4 (fun _ _ => id))
         have HC4 := Lib.hid hown.1
         have HF4 := Lib.hid hf4
         clear hown hbel hf4))
    all_goals
      have FIN := Lib.hid (ShelfAt.grow H.out HPAR.out HL.out hxs HLO.out rfl A1.out A2.out A3.out HE3.out HC4.out HF4.out B1.out B2.out B3.out)
      go_wp2_with fail
      go_ret
      exact FIN.out
  · have hp1 : ((n : Int) + 1) % 2 = 1 := by omega
    have hp2 : IntKind.i64.wrap ((n : Int) + 1) = (n : Int) + 1 := IntWalk.i64_in _ (by omega)
    have F1 : Fr (· = B) w (w.setCell ⟨B, 3, none⟩ (.int .i64 ((n : Int) + 1))) := (Fr.refl (· = B) w).setCell (p := ⟨B, 3, none⟩) (fun _ => rfl) _
    have hs1 : (w.setCell ⟨B, 3, none⟩ (.int .i64 ((n : Int) + 1))).heap.size = w.heap.size := by simp
    have hkB := blk_row_ne H.out.blk H.out.kept (by decide)
    have hwB := blk_row_ne H.out.blk H.out.was (by decide)
    have hS1 : ShelfAt (w.setCell ⟨B, 3, none⟩ (.int .i64 ((n : Int) + 1))) base B (.slice ko ks.length kc) (.slice wo ks.length wc) ks ws Y (n + 1) := by
      refine ⟨by rw [hs1]; exact hbase, ?_, row_fr H.out.kept F1 (fun k hk hh => hkB k hk hh), row_fr H.out.was F1 (fun k hk hh => hwB k hk hh), by have := HKL.out; omega, fun j v hj => ⟨row_fr (H.out.krow j v hj).1 F1 (fun k hk hh => blk_row_ne H.out.blk (H.out.krow j v hj).1 (by decide) k hk hh), (H.out.krow j v hj).2⟩,
        fun j v hj => row_fr (H.out.wrow j v hj) F1 (fun k hk hh => blk_row_ne H.out.blk (H.out.wrow j v hj) (by decide) k hk hh), H.out.dist, H.out.two⟩
      have := H.out.blk.set 3 (.int .i64 ((n : Int) + 1))
      simpa using this
    have HS1 := Lib.hid hS1; clear hS1 hkB hwB
    have HL1 := Lib.hid (row_fr HL.out F1 (fun k hk hh => HLO.out k hk (.inl hh)))
    have HPAR := Lib.hid hpar; clear hpar
    have HF1 := Lib.hid F1; clear F1
    have HLL := Lib.hid (show ∀ w', Fr (SBlk [.slice lo xs.length lc]) ((w.setCell ⟨B, 3, none⟩ (.int .i64 ((n : Int) + 1))).alloc (.cells #[.slice lo xs.length lc] 34)) w' →
        ShelfPost base B (.slice ko ks.length kc) (.slice wo ks.length wc) ks ws n (.slice lo xs.length lc) w (.returned (.bool true)) w' from fun w' hf => by
      have hb : ∀ k, SBlk [Value.slice lo xs.length lc] k → (Value.slice lo xs.length lc).ownBlock = some k := fun k hk => by
        obtain ⟨v, hv, hvk⟩ := hk
        simp at hv; subst hv; exact hvk
      have hf2 := ((Fr.refl _ (w.setCell ⟨B, 3, none⟩ (.int .i64 ((n : Int) + 1)))).alloc _).trans hf (fun _ _ h => h)
      unfold ShelfPost
      refine ⟨_, _, ks, ws, Y, rfl, HS1.out.fr hf2 (fun k hk hs => HLO.out k (hb k hs) hk), fun k hk => .inl hk, (HF1.out.mono (fun k hk => .inl (.inl hk))).trans (hf2.mono (fun k hk => .inr (hb k hk))) (fun _ _ h => h)⟩)
    go_enter Try.func33, Try.ntmps33
    go_wp2_with fail
    have hone := one_list (row_fr HL1.out ((Fr.refl No (w.setCell ⟨B, 3, none⟩ (.int .i64 ((n : Int) + 1)))).alloc (.cells #[.slice lo xs.length lc] 34)) (fun _ _ => id))
    have hown := World.ownsRow_lit (base := base) (e := 34) (size := 1) (w.setCell ⟨B, 3, none⟩ (.int .i64 ((n : Int) + 1))) #[.slice lo xs.length lc] 1 (by rw [hs1]; exact hbase) (by unfold maxLen; omega) (by simp)
    rw [hs1] at hown
    refine (free_calls [.slice lo xs.length lc] (fun _ => xs) _ base base _ hown hone.1 hone.2 (by simp; omega) (by simp) (fun j v _ => by omega)).mono ?_
    rintro e w9 ⟨rfl, hf9⟩
    have FIN := Lib.hid (HLL.out w9 hf9)
    clear hf9 hone hown
    go_wp2_with fail
    go_ret
    exact FIN.out

end Go.Proofs.Ytnfpjholmidnbaa
