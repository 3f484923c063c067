/- hartixlaw0.Free: lists that the call owns, no two in one block: true, and nothing else turns. -/
import Derived.Test.YtollgpnaadgncaaDoorRow
import Derived.Deep.LoopGhost
import Derived.Deep.DeepCutAuto
namespace Go.Proofs.YtollgpnaadgncaaDoor
open Go.RowKit

/-- rows of the call's own, one for each value -/
def Rows' (e : TypeId) (q : IntKind) (vs : List Value) (base : Nat) (W : World) (Y : Nat → List Int) : Prop := ∀ j v, vs[j]? = some v → Row e q W base v (Y j)
/-- no two lie in one block -/
def Distinct (vs : List Value) : Prop := ∀ (i j : Nat) (v v' : Value), i < j → vs[i]? = some v → vs[j]? = some v' → ∀ k, v.ownBlock = some k → v'.ownBlock ≠ some k
/-- the blocks they lie in -/
def SBlk (vs : List Value) (k : Nat) : Prop := ∃ v ∈ vs, v.ownBlock = some k

theorem Distinct.ne {vs : List Value} (h : Distinct vs) {i j : Nat} {v v' : Value} (hne : i ≠ j) (hi : vs[i]? = some v) (hj : vs[j]? = some v') (k : Nat) (hk : v.ownBlock = some k) : v'.ownBlock ≠ some k := by
  rcases Nat.lt_or_gt_of_ne hne with h1 | h1
  · exact h i j v v' h1 hi hj k hk
  · intro h2; exact h j i v' v h1 hj hi k h2 hk

theorem mark_step (m : Int) (xs : List Int) (k : Nat) (h : k < xs.length) : (List.replicate k m ++ xs.drop k).set k m = List.replicate (k + 1) m ++ xs.drop (k + 1) := by
  rw [List.set_append_right _ _ (by simp), List.length_replicate, Nat.sub_self, List.drop_eq_getElem_cons h, List.set_cons_zero, List.replicate_succ', List.append_assoc]
  rfl

theorem mark_len (m : Int) (xs : List Int) (k : Nat) (h : k ≤ xs.length) : (List.replicate k m ++ xs.drop k).length = xs.length := by simp; omega

/-- what holds in the first phase: list i has k marks -/
def Ph1 (e : TypeId) (q : IntKind) (mA : Nat → Int) (vs : List Value) (base : Nat) (X : Nat → List Int) (w0 : World) (i k : Nat) (W : World) : Prop :=
  Rows' e q vs base W (fun j => if j < i then List.replicate (X j).length (mA j) else if j = i then List.replicate k (mA i) ++ (X i).drop k else X j) ∧ Fr (SBlk vs) w0 W

theorem Ph1.next {e : TypeId} {q : IntKind} {mA : Nat → Int} {vs : List Value} {base : Nat} {X : Nat → List Int} {w0 W : World} {i : Nat} (h : Ph1 e q mA vs base X w0 i (X i).length W) : Ph1 e q mA vs base X w0 (i + 1) 0 W := by
  refine ⟨fun j v hj => ?_, h.2⟩
  have h1 := h.1 j v hj
  by_cases h2 : j < i
  · simp only [h2, if_pos, show j < i + 1 by omega] at h1 ⊢; exact h1
  · by_cases h3 : j = i
    · subst h3
      simp only [Nat.lt_irrefl, if_false, if_pos, show j < j + 1 by omega] at h1 ⊢
      simpa using h1
    · by_cases h4 : j = i + 1
      · subst h4
        simp only [h2, h3, if_false, show ¬ i + 1 < i + 1 by omega, if_pos] at h1 ⊢
        simpa using h1
      · simp only [h2, h3, h4, if_false, show ¬ j < i + 1 by omega] at h1 ⊢
        exact h1

/-- one mark more -/
theorem Ph1.step {e : TypeId} {q : IntKind} {mA : Nat → Int} {vs : List Value} {base : Nat} {X : Nat → List Int} {w0 W : World} {i k : Nat} {ao : Option Addr} {c : Nat} (h : Ph1 e q mA vs base X w0 i k W) (hd : Distinct vs) (hi : vs[i]? = some (.slice ao (X i).length c)) (hk : k < (X i).length) :
    ∃ g y, ao = some ⟨g, 0, none⟩ ∧ W.cell? ⟨g, k, none⟩ = some (.int q y) ∧ W.frozen? ⟨g, k, none⟩ = false ∧ Ph1 e q mA vs base X w0 i (k + 1) (W.setCell ⟨g, k, none⟩ (.int q (mA i))) := by
  have h1 := h.1 i _ hi
  simp only [Nat.lt_irrefl, if_false, if_pos] at h1
  have hl : (List.replicate k (mA i) ++ (X i).drop k).length = (X i).length := mark_len _ _ _ (by omega)
  have h1' := h1
  unfold Row at h1'
  rw [hl] at h1'
  obtain ⟨g, rfl, hb, hlt, hc, hf, hset⟩ := row_at h1' k _ (List.getElem?_eq_getElem (by simp; omega))
  rw [List.getElem_map] at hc
  refine ⟨g, _, rfl, hc, hf, fun j v hj => ?_, ?_⟩
  · by_cases h3 : j = i
    · subst h3
      rw [hi] at hj
      cases hj
      have := hset (.int q (mA j))
      rw [← List.map_set, mark_step _ _ _ hk] at this
      simp only [Nat.lt_irrefl, if_false, if_pos]
      unfold Row
      rw [mark_len _ _ _ (by omega)]
      exact this
    · have hv := h.1 j v hj
      refine row_fr (S := (· = g)) ?_ ((Fr.refl (· = g) W).setCell (p := ⟨g, k, none⟩) (fun _ => rfl) _) (fun x hx hxg => hd.ne (fun hh => h3 hh.symm) hi hj g rfl (hxg ▸ hx))
      simpa only [h3, if_false] using hv
  · refine h.2.setCell (p := ⟨g, k, none⟩) (fun _ => ⟨_, List.mem_of_getElem? hi, rfl⟩) _

/-- the marks of the second phase -/
def mkX (mA : Nat → Int) (X : Nat → List Int) (j : Nat) : List Int := List.replicate (X j).length (mA j)

/-- what holds in the second phase: the first i lists have grown -/
def Ph2 (e el : TypeId) (q : IntKind) (mA mB : Nat → Int) (vs : List Value) (base : Nat) (X : Nat → List Int) (w0 : World) (more : Value) (ms : List Value) (i : Nat) (W : World) : Prop :=
  ms.length = i ∧ W.ownsRow w0.heap.size el 1 more i ms ∧ Rows' e q ms base W (fun j => mkX mA X j ++ List.replicate 64 (mB j)) ∧
    (∀ (j : Nat) (v : Value), vs[j]? = some v → j < i → mkX mA X j ≠ [] → ∃ g c, v = .slice (some ⟨g, 0, none⟩) (X j).length c ∧ g < w0.heap.size ∧ ∀ k, k < (X j).length → W.cell? ⟨g, k, none⟩ = some (.int q (mA j))) ∧
    (∀ (j : Nat) (v : Value), vs[j]? = some v → i ≤ j → Row e q W base v (mkX mA X j)) ∧ (∀ (j : Nat) (m : Value) (j' : Nat) (v : Value), ms[j]? = some m → vs[j']? = some v → i ≤ j' → ∀ k, m.ownBlock = some k → v.ownBlock ≠ some k) ∧ Fr (SBlk vs) w0 W

/-- within a round: list i has grown by k -/
def Ph2i (e : TypeId) (q : IntKind) (mA mB : Nat → Int) (vs : List Value) (base : Nat) (X : Nat → List Int) (W1 : World) (i k : Nat) (m : Value) (W : World) : Prop :=
  Row e q W base m (mkX mA X i ++ List.replicate k (mB i)) ∧
    (∀ v : Value, vs[i]? = some v → mkX mA X i ≠ [] → ∃ g c, v = .slice (some ⟨g, 0, none⟩) (X i).length c ∧ ∀ k, k < (X i).length → W.cell? ⟨g, k, none⟩ = some (.int q (mA i))) ∧
    (∀ v : Value, vs[i]? = some v → (∀ g, m.ownBlock = some g → v.ownBlock = some g ∨ W1.heap.size ≤ g) ∧ Fr (fun g => v.ownBlock = some g) W1 W)

theorem mkX_length {mA : Nat → Int} {X : Nat → List Int} {j : Nat} : (mkX mA X j).length = (X j).length := by simp [mkX]

/-- a row of marks, read -/
theorem marks_read {e : TypeId} {q : IntKind} {mA : Nat → Int} {X : Nat → List Int} {W : World} {base j : Nat} {v : Value} (h : Row e q W base v (mkX mA X j)) (hne : mkX mA X j ≠ []) :
    ∃ g c, v = .slice (some ⟨g, 0, none⟩) (X j).length c ∧ g < W.heap.size ∧ ∀ k, k < (X j).length → W.cell? ⟨g, k, none⟩ = some (.int q (mA j)) := by
  have hpos : 0 < (X j).length := by have := List.length_pos_iff.2 hne; rwa [mkX_length] at this
  unfold Row at h
  rw [mkX_length] at h
  obtain ⟨ao, c, rfl, _⟩ := row_shape h
  obtain ⟨g, rfl, _, hg, _⟩ := row_at h 0 _ (List.getElem?_eq_getElem (by simp [mkX]; omega))
  refine ⟨g, c, rfl, hg, fun k hk => ?_⟩
  have := row_cell h k (by simp [mkX]; omega)
  simpa [mkX] using this

theorem Ph2i.start {e el : TypeId} {q : IntKind} {mA mB : Nat → Int} {vs : List Value} {base : Nat} {X : Nat → List Int} {w0 W : World} {more : Value} {ms : List Value} {i : Nat} {v : Value} (h : Ph2 e el q mA mB vs base X w0 more ms i W) (hv : vs[i]? = some v) :
    Ph2i e q mA mB vs base X W i 0 v W := by
  obtain ⟨_, _, _, _, h5, _, _⟩ := h
  have hr := h5 i v hv (Nat.le_refl _)
  refine ⟨by simpa using hr, fun v' hv' hne => ?_, fun v' hv' => ?_⟩
  · rw [hv] at hv'; cases hv'
    obtain ⟨g, c, e1, _, e2⟩ := marks_read hr hne
    exact ⟨g, c, e1, e2⟩
  · rw [hv] at hv'; cases hv'
    exact ⟨fun g hg => .inl hg, Fr.refl _ _⟩

/-- one more appended: m is now m' -/
theorem Ph2i.step {e : TypeId} {q : IntKind} {mA mB : Nat → Int} {vs : List Value} {base : Nat} {X : Nat → List Int} {W1 W W' : World} {i k : Nat} {m m' v : Value} (h : Ph2i e q mA mB vs base X W1 i k m W) (hv : vs[i]? = some v)
    (hb : ∀ g, v.ownBlock = some g → g < W1.heap.size) (hown : W'.ownsRow base e 1 m' ((mkX mA X i ++ List.replicate k (mB i)).length + 1) ((mkX mA X i ++ List.replicate k (mB i)).map (Value.int q) ++ [.int q (mB i)]))
    (hf : Fr (fun g => m.ownBlock = some g ∧ m'.ownBlock = some g) W W') (hn : ∀ g, m'.ownBlock = some g → m.ownBlock = some g ∨ W.heap.size ≤ g) : Ph2i e q mA mB vs base X W1 i (k + 1) m' W' := by
  obtain ⟨h1, h2, h3⟩ := h
  obtain ⟨h3a, h3b⟩ := h3 v hv
  have hrow : Row e q W' base m' (mkX mA X i ++ List.replicate (k + 1) (mB i)) := by
    have e1 : mkX mA X i ++ List.replicate (k + 1) (mB i) = (mkX mA X i ++ List.replicate k (mB i)) ++ [mB i] := by rw [List.replicate_succ', List.append_assoc]
    unfold Row
    rw [e1, List.length_append, List.map_append]
    exact hown
  have hs := h3b.size
  refine ⟨hrow, fun v' hv' hne => ?_, fun v' hv' => ?_⟩
  · rw [hv] at hv'; cases hv'
    obtain ⟨g, c, rfl, hc⟩ := h2 v hv hne
    refine ⟨g, c, rfl, fun j hj => ?_⟩
    by_cases hg : m'.ownBlock = some g
    · unfold Row at hrow
      obtain ⟨ao, cc, rfl, _, _⟩ := row_shape hrow
      obtain ⟨g', rfl, _, _, hcell, _⟩ := row_at hrow j (.int q (mA i)) (by
        rw [List.getElem?_map, List.getElem?_append_left (by rw [mkX_length]; exact hj)]
        simp [mkX, hj])
      cases hg
      exact hcell
    · exact hf.cell (hc j hj) (fun hh => hg hh.2)
  · rw [hv] at hv'; cases hv'
    refine ⟨fun g hg => ?_, h3b.trans hf (fun x hx hh => ?_)⟩
    · rcases hn g hg with h4 | h4
      · exact h3a g h4
      · exact .inr (Nat.le_trans hs h4)
    · rcases h3a x hh.1 with h4 | h4
      · exact h4
      · omega

/-- the round's end: what has grown is put away -/
theorem Ph2.next {e el : TypeId} {q : IntKind} {mA mB : Nat → Int} {vs : List Value} {base : Nat} {X : Nat → List Int} {w0 W1 W W' : World} {more more' m v : Value} {ms : List Value} {i : Nat} (hel : el ≠ e) (h : Ph2 e el q mA mB vs base X w0 more ms i W1)
    (hi : Ph2i e q mA mB vs base X W1 i 64 m W) (hd : Distinct vs) (hbv : ∀ (j : Nat) (v : Value), vs[j]? = some v → ∀ g, v.ownBlock = some g → g < w0.heap.size) (hv : vs[i]? = some v) (hown : W'.ownsRow w0.heap.size el 1 more' (i + 1) (ms ++ [m]))
    (hf : Fr (fun g => more.ownBlock = some g ∧ more'.ownBlock = some g) W W') : Ph2 e el q mA mB vs base X w0 more' (ms ++ [m]) (i + 1) W' := by
  obtain ⟨h1, h2, h3, h4, h5, h6, h7⟩ := h
  obtain ⟨i1, i2, i3⟩ := hi
  obtain ⟨i3a, i3b⟩ := i3 v hv
  have hs1 := h7.size
  have hs2 := i3b.size
  -- where the list of the grown lists lies
  have hmb : ∀ g, more.ownBlock = some g → w0.heap.size ≤ g := fun g hg => (h2.lt g hg).1
  have hmore : W.ownsRow w0.heap.size el 1 more i ms := row_fr h2 i3b (fun g hg hh => by have := hbv i v hv g hh; have := hmb g hg; omega)
  have hfm : ∀ {u : Value} {n : Nat} {cs : List Value}, W.ownsRow base e 1 u n cs → W'.ownsRow base e 1 u n cs := fun {u n cs} hu => row_fr hu hf (fun g hg hh => row_apart hmore hu hel g hh.1 hg)
  have hms : ∀ j m', ms[j]? = some m' → Row e q W base m' (mkX mA X j ++ List.replicate 64 (mB j)) := fun j m' hj => row_fr (h3 j m' hj) i3b (fun g hg hh => h6 j m' i v hj hv (Nat.le_refl _) g hg hh)
  refine ⟨by simp [h1], hown, fun j m' hj => ?_, fun j v' hj hlt hne => ?_, fun j v' hj hle => ?_, fun j m' j' v' hj hj' hle g hg hg' => ?_, ?_⟩
  · rw [List.getElem?_append] at hj
    split at hj
    · exact hfm (hms j m' hj)
    · rename_i hge
      have hji : j = i := by
        have := (List.getElem?_eq_some_iff.1 hj).1
        simp at this; omega
      subst hji
      rw [h1, Nat.sub_self] at hj
      simp at hj
      subst hj
      exact hfm i1
  · by_cases hji : j = i
    · subst hji
      obtain ⟨g, c, rfl, hc⟩ := i2 v' hj hne
      have hgl := hbv j _ hj g rfl
      exact ⟨g, c, rfl, hgl, fun k hk => hf.cell (hc k hk) (fun hh => by have := hmb g hh.1; omega)⟩
    · obtain ⟨g, c, rfl, hgl, hc⟩ := h4 j v' hj (by omega) hne
      refine ⟨g, c, rfl, hgl, fun k hk => hf.cell (i3b.cell (hc k hk) (fun hh => ?_)) (fun hh => by have := hmb g hh.1; omega)⟩
      exact hd j i _ _ (by omega) hj hv g rfl hh
  · exact hfm (row_fr (h5 j v' hj (by omega)) i3b (fun g hg hh => hd i j _ _ (by omega) hv hj g hh hg))
  · rw [List.getElem?_append] at hj
    split at hj
    · exact h6 j m' j' v' hj hj' (by omega) g hg hg'
    · rename_i hge
      have hji : j = i := by
        have := (List.getElem?_eq_some_iff.1 hj).1
        simp at this; omega
      subst hji
      rw [h1, Nat.sub_self] at hj
      simp at hj
      subst hj
      rcases i3a g hg with h8 | h8
      · exact hd j j' _ _ (by omega) hv hj' g h8 hg'
      · have := hbv j' v' hj' g hg'; omega
  · refine (h7.trans i3b (fun x hx hh => ⟨v, List.mem_of_getElem? hv, hh⟩)).trans hf (fun x hx hh => ?_)
    have := hmb x hh.1
    omega

theorem info34 : (Tryd.prog.info? 22).map (fun i => (i.zero, i.size, i.bytes)) = some (some (.slice none 0 0), 1, 24) := by kernel_rfl

def mkA (i : Nat) : Int := (i : Int) % 100
def mkB (i : Nat) : Int := 128 + (i : Int) % 100

set_option maxRecDepth 100000 in
set_option maxHeartbeats 6400000 in
theorem free_calls (vs : List Value) (X : Nat → List Int) (lv : Value) (base0 base : Nat) (w : World) (hl : w.ownsRow base0 22 1 lv vs.length vs) (hr : Rows' 5 .u8 vs base w X) (hd : Distinct vs) (hbase : base ≤ w.heap.size)
    (hN : vs.length * 24 ≤ 140737488355328) (hX : ∀ j v, vs[j]? = some v → (X j).length + 64 ≤ 140737488355328) :
    Calls Tryd.prog 21 #[lv] w fun e w' => e = .returned (.bool true) ∧ Fr (SBlk vs) w w' := by
  obtain ⟨i5, hi5, hz0, hz1, hz2⟩ := info_parts infoU8
  obtain ⟨i34, hi34, hy0, hy1, hy2⟩ := info_parts info34
  obtain ⟨lo, lc, rfl, hlc, hnone⟩ := row_shape hl
  -- the list of the lists stays
  have hhead : ∀ W, Fr (SBlk vs) w W → W.ownsRow base0 22 1 (.slice lo vs.length lc) vs.length vs := fun W hW => by
    refine row_fr hl hW (fun k hk hs => ?_)
    obtain ⟨v, hv, hvk⟩ := hs
    obtain ⟨j, hj, rfl⟩ := List.getElem_of_mem hv
    exact row_apart hl (hr j _ (List.getElem?_eq_getElem hj)) (by decide) k hk hvk
  have HH := Lib.hid hhead; clear hhead
  have HX := Lib.hid hX; clear hX
  have HD := Lib.hid hd; clear hd
  have H0 := Lib.hid (show Ph1 5 .u8 mkA vs base X w 0 0 w from ⟨fun j v hj => by
    have := hr j v hj
    by_cases h : j = 0
    · subst h; simpa using this
    · simpa [h] using this, Fr.refl _ _⟩)
  have HSH := Lib.hid (show ∀ j, j < vs.length → ∃ ao c, vs[j]? = some (.slice ao (X j).length c) from fun j hj => by
    obtain ⟨ao, c, e, _⟩ := row_shape (hr j _ (List.getElem?_eq_getElem hj))
    exact ⟨ao, c, by rw [List.getElem?_eq_getElem hj, e]⟩)
  have HBV := Lib.hid (show ∀ (j : Nat) (v : Value), vs[j]? = some v → ∀ g, v.ownBlock = some g → g < w.heap.size from fun j v hj g hg => ((hr j v hj).lt g hg).2)
  clear hl hr hnone
  go_enter Tryd.func21, Tryd.ntmps21
  go_wp2_with fail
  go_loopg [3] vs.length (fun g i wx => ∃ k : Nat, k ≤ vs.length ∧ g = vs.length - k ∧ i = .int .i64 k ∧ Ph1 5 .u8 mkA vs base X w k 0 wx)
  case atStart => exact ⟨0, Nat.zero_le _, rfl, rfl, H0.out⟩
  case round =>
    obtain ⟨i, hi, rfl, rfl, hph⟩ := hrel
    by_cases hlt : i < vs.length
    · have HPH := Lib.hid hph; clear hph
      go_wp2_with fail
      go_loopg [4] (X i).length (fun g s wx => ∃ k : Nat, k ≤ (X i).length ∧ g = (X i).length - k ∧ s = .int .i64 k ∧ Ph1 5 .u8 mkA vs base X w i k wx)
      case atStart => exact ⟨0, Nat.zero_le _, rfl, rfl, HPH.out⟩
      case round =>
        obtain ⟨k, hk, rfl, rfl, hph⟩ := hrel
        obtain ⟨ai, ci, hvi⟩ := HSH.out i hlt
        obtain ⟨LB, rfl, _, _, hc0, _⟩ := row_at (HH.out _ hph.2) i _ hvi
        have hXi := HX.out i _ hvi
        by_cases hk2 : k < (X i).length
        · obtain ⟨g, y, rfl, hc1, hf1, hnx⟩ := hph.step HD.out hvi hk2
          have HNX := Lib.hid hnx; clear hnx hph
          have HV := Lib.hid hvi; clear hvi
          go_wp2_with fail
          go_roundg ((X i).length - (k + 1))
          case measure => omega
          case rel => exact ⟨k + 1, by omega, rfl, by go_num, HNX.out⟩
        · have he : k = (X i).length := by omega
          subst he
          have HPH2 := Lib.hid hph.next; clear hph
          have HV := Lib.hid hvi; clear hvi
          go_wp2_with fail
          go_roundg (vs.length - (i + 1))
          case measure => omega
          case rel => exact ⟨i + 1, by omega, rfl, by go_num, HPH2.out⟩
    · have he : i = vs.length := by omega
      subst he
      have HPH := Lib.hid hph; clear hph
      have hbv : ∀ (j : Nat) (v : Value), vs[j]? = some v → ∀ g, v.ownBlock = some g → g < w.heap.size := HBV.out
      have H2 := Lib.hid (show Ph2 5 22 .u8 mkA mkB vs base X w (.slice none 0 0) [] 0 wr from ⟨rfl, World.ownsRow_nil _ _ _ _, fun j v hj => by simp at hj, fun j v hj hlt => by omega, fun j v hj _ => by
        have hjl := (List.getElem?_eq_some_iff.1 hj).1
        have := HPH.out.1 j v hj
        simpa [hjl, mkX] using this, fun j m j' v hj => by simp at hj, HPH.out.2⟩)
      clear HPH hbv
      go_wp2_with fail
      go_loopg [5, 6] vs.length (fun g more s wx => ∃ (k : Nat) (ms : List Value), k ≤ vs.length ∧ g = vs.length - k ∧ s = .int .i64 k ∧ Ph2 5 22 .u8 mkA mkB vs base X w more ms k wx)
      case atStart => exact ⟨0, [], Nat.zero_le _, rfl, rfl, H2.out⟩
      case round =>
        obtain ⟨i, ms, hi, rfl, rfl, hph⟩ := hrel
        have hml := hph.1
        obtain ⟨mo, mc, rfl, hmc, _⟩ := row_shape hph.2.1
        by_cases hlt : i < vs.length
        · obtain ⟨ai, ci, hvi⟩ := HSH.out i hlt
          obtain ⟨LB, rfl, _, _, hc0, _⟩ := row_at (HH.out _ hph.2.2.2.2.2.2) i _ hvi
          have hXi := HX.out i _ hvi
          have hws := hph.2.2.2.2.2.2.size
          have HPH := Lib.hid hph; clear hph
          have HV := Lib.hid hvi; clear hvi
          go_wp2_with fail
          go_loopg [7, 8] 64 (fun g m s wx => ∃ k : Nat, k ≤ 64 ∧ g = 64 - k ∧ s = .int .i64 k ∧ Ph2i 5 .u8 mkA mkB vs base X wr i k m wx)
          case atStart => exact ⟨0, Nat.zero_le _, rfl, rfl, Ph2i.start HPH.out HV.out⟩
          case round =>
            obtain ⟨k, hk, rfl, rfl, hin⟩ := hrel
            have hmr := hin.1
            have hsz2 := (hin.2.2 _ HV.out).2.size
            obtain ⟨am, cm, rfl, hcm, _⟩ := row_shape hmr
            have hml2 : (mkX mkA X i ++ List.replicate k (mkB i)).length = (X i).length + k := by simp [mkX]
            obtain ⟨L, hL⟩ : ∃ L, L = (mkX mkA X i ++ List.replicate k (mkB i)).length := ⟨_, rfl⟩
            have hmr2 := hmr
            unfold Row at hmr2
            rw [← hL] at hml2 hcm hin hmr2 ⊢
            have HML := Lib.hid hml2; clear hml2
            have HMR := Lib.hid hmr2; clear hmr2 hmr
            have HIN := Lib.hid hin; clear hin
            have HL := Lib.hid hL; clear hL
            by_cases hk2 : k < 64
            · go_wp2_with (at_builtin; refine wpList_append_one rfl _ _ 22 rfl base 5 i5 (.int .u8 0) 1 Tryd.underlying22 hi5 hz0 hz1 hz2 rfl (.slice am L cm) L ((mkX mkA X i ++ List.replicate k (mkB i)).map (Value.int .u8)) rfl (HMR.out.alloc _) _ _ (.int .u8 (mkB i)) rfl ?cell rfl ?h63 ?hby ?hba ?_)
              case cell => exact (Blk.new _ [Value.int .u8 (mkB i)] 5).cell 0
              case h63 => have := HML.out; unfold maxLen; omega
              case hby => have := HML.out; omega
              case hba => simp; omega
              intro m' w' hown hf hn
              have hst := Ph2i.step (k := k) HIN.out HV.out (fun g hg => by have := HBV.out i _ HV.out g hg; omega) (by rw [← HL.out]; simpa using hown) (((Fr.refl _ _).alloc _).trans hf (fun _ _ h => h)) (fun g hg => by
                rcases hn g hg with h1 | h1
                · exact .inl h1
                · have h2 : wr.heap.size + 1 ≤ g := by simpa using h1
                  exact .inr (by omega))
              have HST := Lib.hid hst; clear hst hf hn hown
              go_wp2_with fail
              go_roundg (64 - (k + 1))
              case measure => omega
              case rel => exact ⟨k + 1, by omega, rfl, by go_num, HST.out⟩
            · have he : k = 64 := by omega
              subst he
              have hmo := row_fr HPH.out.2.1 (HIN.out.2.2 _ HV.out).2 (fun g hg hh => by have := HBV.out i _ HV.out g hh; have := (HPH.out.2.1.lt g hg).1; omega)
              have HMO := Lib.hid hmo; clear hmo
              go_wp2_with (at_builtin; refine wpList_append_one rfl _ _ 45 rfl w.heap.size 22 i34 (.slice none 0 0) 24 Tryd.underlying45 hi34 hy0 hy1 hy2 rfl (.slice mo i mc) i ms rfl (HMO.out.alloc _) _ _ (.slice am L cm) rfl ?cell rfl ?h63 ?hby ?hba ?_)
              case cell => exact (Blk.new _ [Value.slice am L cm] 22).cell 0
              case h63 => unfold maxLen; omega
              case hby => omega
              case hba => simp; omega
              intro more' w' hown hf hn
              have hst := Ph2.next (by decide) HPH.out HIN.out HD.out HBV.out HV.out hown (((Fr.refl _ _).alloc _).trans hf (fun _ _ h => h))
              have HST := Lib.hid hst; clear hst hf hn hown
              go_wp2_with fail
              go_roundg (vs.length - (i + 1))
              case measure => omega
              case rel => exact ⟨i + 1, _, by omega, rfl, by go_num, HST.out⟩
        · have he : i = vs.length := by omega
          subst he
          obtain ⟨_, hmo, hmrows, hvcells, _, _, hfr⟩ := hph
          have HFR := Lib.hid hfr; clear hfr
          have HMO := Lib.hid hmo; clear hmo
          have HMR := Lib.hid hmrows; clear hmrows
          have HVC := Lib.hid hvcells; clear hvcells
          go_wp2_with fail
          go_loopg [9] vs.length (fun g s wx => wr = wx ∧ ∃ k : Nat, k ≤ vs.length ∧ g = vs.length - k ∧ s = .int .i64 k)
          case atStart => exact ⟨rfl, 0, Nat.zero_le _, rfl, rfl⟩
          case round =>
            obtain ⟨rfl, i, hi, rfl, rfl⟩ := hrel
            by_cases hlt : i < vs.length
            · obtain ⟨ai, ci, hvi⟩ := HSH.out i hlt
              obtain ⟨LB, rfl, _, _, hc0, _⟩ := row_at (HH.out _ HFR.out) i _ hvi
              have hXi := HX.out i _ hvi
              have HVCi := Lib.hid (HVC.out i _ hvi hlt)
              have hmi : ms[i]? = some ms[i] := List.getElem?_eq_getElem (by omega)
              have hrow := HMR.out i _ hmi
              obtain ⟨MB, rfl, _, _, hm0, _⟩ := row_at HMO.out i _ hmi
              have hlm : (mkX mkA X i ++ List.replicate 64 (mkB i)).length = (X i).length + 64 := by simp [mkX]
              unfold Row at hrow
              rw [hlm] at hrow
              obtain ⟨am, cm, hme, _, _⟩ := row_shape hrow
              rw [hme] at hrow hm0
              have hcells : ∀ k, k < 64 → ∃ gm, am = some ⟨gm, 0, none⟩ ∧ wr.cell? ⟨gm, (X i).length + k, none⟩ = some (.int .u8 (mkB i)) := fun k hk => by
                obtain ⟨gm, e, _, _, hcc, _⟩ := row_at hrow ((X i).length + k) (.int .u8 (mkB i)) (by
                  rw [List.getElem?_map, List.getElem?_append_right (by rw [mkX_length]; omega), mkX_length, List.getElem?_replicate, if_pos (by omega)]
                  rfl)
                exact ⟨gm, e, hcc⟩
              have HCE := Lib.hid hcells; clear hcells
              have HV := Lib.hid hvi; clear hvi
              clear hlm hrow hme hmi
              go_wp2_with fail
              go_loopg [11] (X i).length (fun g s wx => wr = wx ∧ ∃ k : Nat, k ≤ (X i).length ∧ g = (X i).length - k ∧ s = .int .i64 k)
              case atStart => exact ⟨rfl, 0, Nat.zero_le _, rfl, rfl⟩
              case round =>
                obtain ⟨rfl, k, hk, rfl, rfl⟩ := hrel
                by_cases hk2 : k < (X i).length
                · obtain ⟨g, c, e, _, hcc⟩ := HVCi.out (by intro h; have := congrArg List.length h; rw [mkX_length, List.length_nil] at this; omega)
                  cases e
                  have hck := hcc k hk2
                  clear hcc
                  unfold mkA at hck
                  go_wp2_with fail
                  go_roundg ((X i).length - (k + 1))
                  case measure => omega
                  case rel => exact ⟨rfl, k + 1, by omega, rfl, by go_num⟩
                · have he : k = (X i).length := by omega
                  subst he
                  go_wp2_with fail
                  go_loopg [12] 64 (fun g s wx => wr = wx ∧ ∃ k : Nat, k ≤ 64 ∧ g = 64 - k ∧ s = .int .i64 k)
                  case atStart => exact ⟨rfl, 0, Nat.zero_le _, rfl, rfl⟩
                  case round =>
                    obtain ⟨rfl, k, hk, rfl, rfl⟩ := hrel
                    by_cases hk3 : k < 64
                    · obtain ⟨gm, rfl, hck⟩ := HCE.out k hk3
                      unfold mkB at hck
                      go_wp2_with fail
                      go_roundg (64 - (k + 1))
                      case measure => omega
                      case rel => exact ⟨rfl, k + 1, by omega, rfl, by go_num⟩
                    · have he : k = 64 := by omega
                      subst he
                      go_wp2_with fail
                      go_roundg (vs.length - (i + 1))
                      case measure => omega
                      case rel => exact ⟨rfl, i + 1, by omega, rfl, by go_num⟩
            · have he : i = vs.length := by omega
              subst he
              go_wp2_with fail
              go_ret
              exact ⟨rfl, HFR.out⟩

end Go.Proofs.YtollgpnaadgncaaDoor
