/- pipe.Pipe: Take. No condition. -/
import Derived.Test.YtnfpjholmidnbaaPipeC
namespace Go.Proofs.Ytnfpjholmidnbaa
open Go.RowKit

theorem front_calls' (b : Nat) (q : List Int) (rd wr : Int) (sr sw : Bool) (n : Nat) (w : World) (h : PipeAt w b q rd wr sr sw) (hn : n ≤ q.length) :
    Calls Try.prog 36 #[.pointer (some ⟨b, 0, none⟩), .int .i64 n] w fun e w' => ∃ ao c, e = .returned (.slice ao n c) ∧ Own w' w.heap.size (.slice ao n c) (q.take n) ∧ Below w.heap.size w w' := by
  refine (front_calls b q rd wr sr sw n w h hn).mono ?_
  rintro e w' ⟨v', rfl, ho, hb⟩
  obtain ⟨ao, c, rfl⟩ := ho.shape
  have e : (q.take n).length = n := by simp; omega
  rw [e] at ho ⊢
  exact ⟨ao, c, rfl, ho, hb⟩

/-- what the three stores of a Take leave -/
theorem take_stores {w : World} {b : Nat} {q : List Int} {rd wr : Int} {sr sw : Bool} (h : PipeAt w b q rd wr sr sw) (at_ K : Nat) (hK : K ≤ q.length) (hat : w.cell? ⟨b, 513, none⟩ = some (.int .i64 at_)) (x y z : Int)
    (hx : x = ((at_ + K) % 512 : Nat)) (hy : y = (q.length - K : Nat)) (hz : z = (rd + K) % 4294967296) :
    PipeAt (((w.setCell ⟨b, 513, none⟩ (.int .i64 x)).setCell ⟨b, 514, none⟩ (.int .i64 y)).setCell ⟨b, 515, none⟩ (.int .u32 z)) b (q.drop K) ((rd + K) % 4294967296) wr sr sw := by
  obtain ⟨hr, ring, a, h1, h2, h3, h4, hb⟩ := h
  have ha : a = at_ := by
    have := (hb.cell 513).trans (pcells_tail h1 0)
    rw [hat] at this; simp at this; omega
  subst ha
  refine ⟨by omega, ring, (a + K) % 512, h1, Nat.mod_lt _ (by omega), by simp; omega, fun i hi => ?_, ?_⟩
  · rw [List.length_drop] at hi
    rw [List.getElem?_drop, ← h4 (K + i) (by omega)]
    congr 1; omega
  · have := ((hb.set 513 (.int .i64 x)).set 514 (.int .i64 y)).set 515 (.int .u32 z)
    subst hx hy hz
    rw [pcells_set h1 0] at this
    have e : (Value.bool true :: ring.map (Value.int .u8)).length = 513 := by simp [h1]
    rw [List.set_append_right _ _ (by rw [e]; omega), List.set_append_right _ _ (by rw [e]; omega), e] at this
    simpa [pcells] using this

theorem take_fr (w : World) (b : Nat) (x y z : Value) : Fr (· = b) w (((w.setCell ⟨b, 513, none⟩ x).setCell ⟨b, 514, none⟩ y).setCell ⟨b, 515, none⟩ z) :=
  (((Fr.refl (· = b) w).setCell (p := ⟨b, 513, none⟩) (fun _ => rfl) x).setCell (p := ⟨b, 514, none⟩) (fun _ => rfl) y).setCell (p := ⟨b, 515, none⟩) (fun _ => rfl) z

/-- how many bytes a Take of n gives -/
def takeK (n : Int) (q : List Int) : Nat := if n < 1 then 0 else min n.toNat q.length
/-- what a Take of n tells -/
def takeHow (n : Int) (q : List Int) (sw : Bool) : Int := if n < 1 then 1 else if q = [] ∧ sw = false then 2 else 1

theorem takeK_zero {n : Int} {q : List Int} (h : n < 1 ∨ q = []) : takeK n q = 0 := by
  unfold takeK; rcases h with h | h
  · rw [if_pos h]
  · split <;> simp [h]

/-- behind a Take that gave nothing -/
theorem PipeAt.same {w : World} {b : Nat} {q : List Int} {rd wr : Int} {sr sw : Bool} (h : PipeAt w b q rd wr sr sw) : PipeAt w b (q.drop 0) ((rd + (0 : Nat)) % 4294967296) wr sr sw := by
  have e : (rd + (0 : Nat)) % 4294967296 = rd := by have := h.1; simp; omega
  rw [e]; exact h

set_option maxRecDepth 100000 in
set_option maxHeartbeats 3200000 in
theorem take_calls (b : Nat) (q : List Int) (rd wr : Int) (sr sw : Bool) (n : Int) (w : World) (h : PipeAt w b q rd wr sr sw) (hn1 : -9223372036854775808 ≤ n) (hn2 : n ≤ 9223372036854775807) :
    Calls Try.prog 20 #[.pointer (some ⟨b, 0, none⟩), .int .i64 n] w fun e w' => ∃ v', e = .returned (.tuple #[v', .int .i64 (takeHow n q sw)]) ∧ Own w' w.heap.size v' (q.take (takeK n q)) ∧
      PipeAt w' b (q.drop (takeK n q)) ((rd + (takeK n q : Nat)) % 4294967296) wr sr sw ∧ Fr (· = b) w w' := by
  obtain ⟨c0, c1, c2, c3, c4, c5⟩ := state_cells h
  by_cases hlt : n < 1
  · have HP := Lib.hid h; clear h
    go_enter Try.func20, Try.ntmps20
    go_wp2_with (go_at_call 35; refine (is_calls b _ c0).mono ?_; rintro e w' ⟨rfl, rfl⟩)
    go_ret2
    rw [takeK_zero (.inl hlt)]
    exact ⟨_, by simp [takeHow, hlt], ⟨World.ownsRow_nil _ _ _ _, fun _ => rfl⟩, HP.out.same, Fr.refl _ _⟩
  · by_cases hq : q = []
    · subst hq
      have HP := Lib.hid h; clear h
      have k0 := takeK_zero (n := n) (q := []) (.inr rfl)
      have K0 := Lib.hid k0; clear k0
      cases sw
      · go_enter Try.func20, Try.ntmps20
        go_wp2_with (go_at_call 35; refine (is_calls b _ c0).mono ?_; rintro e w' ⟨rfl, rfl⟩)
        go_ret2
        rw [K0.out]
        exact ⟨_, by simp [takeHow, hlt], ⟨World.ownsRow_nil _ _ _ _, fun _ => rfl⟩, HP.out.same, Fr.refl _ _⟩
      · go_enter Try.func20, Try.ntmps20
        go_wp2_with (go_at_call 35; refine (is_calls b _ c0).mono ?_; rintro e w' ⟨rfl, rfl⟩)
        go_ret2
        rw [K0.out]
        exact ⟨_, by simp [takeHow], ⟨World.ownsRow_nil _ _ _ _, fun _ => rfl⟩, HP.out.same, Fr.refl _ _⟩
    · have hlen : 0 < q.length := List.length_pos_iff.2 hq
      have hl512 := h.bound
      have hz : ((q.length : Int) == 0) = false := by simp; omega
      have hneq : ¬ q = [] := hq
      obtain ⟨m, rfl⟩ := Int.eq_ofNat_of_zero_le (show 0 ≤ n by omega)
      obtain ⟨K, hK⟩ : ∃ K, K = takeK (m : Int) q := ⟨_, rfl⟩
      have hK2 : K = min m q.length := by rw [hK]; unfold takeK; rw [if_neg hlt]; simp
      have hhow : takeHow (m : Int) q sw = 1 := by unfold takeHow; rw [if_neg hlt, if_neg (fun x => hq x.1)]
      have HH := Lib.hid hhow; clear hhow
      rw [← hK]
      have HK := Lib.hid hK2; clear hK2 hK
      have HQ := Lib.hid hq; clear hq hneq
      obtain ⟨hr, ring, at_, h1, h2, h3, h4, hb⟩ := h
      have hbl := hb.lt
      have c6 : w.cell? ⟨b, 513, none⟩ = some (.int .i64 at_) := (hb.cell 513).trans (pcells_tail h1 0)
      have HP := Lib.hid (show PipeAt w b q rd wr sr sw from ⟨hr, ring, at_, h1, h2, h3, h4, hb⟩)
      have HB := Lib.hid hb; clear hb
      have H1 := Lib.hid h1; clear h1
      have H4 := Lib.hid h4; clear h4
      go_enter Try.func20, Try.ntmps20
      go_wp2_with (go_at_call 35; refine (is_calls b _ c0).mono ?_; rintro e w' ⟨rfl, rfl⟩)
      all_goals
        refine (front_calls' b q rd wr sr sw _ w HP.out (by omega)).mono ?_
        rintro e w1 ⟨ao, cc, rfl, hown, hbel⟩
        have k6 := (hbel.cell (p := ⟨b, 513, none⟩) hbl).trans c6
        have k1 := (hbel.cell (p := ⟨b, 514, none⟩) hbl).trans c1
        have k2 := (hbel.cell (p := ⟨b, 515, none⟩) hbl).trans c2
        have hb1 := HB.out.fr (Fr.of_below hbel) id
        have f6 := hb1.free 513
        have f1 := hb1.free 514
        have f2 := hb1.free 515
        have HB1 := Lib.hid hb1; clear hb1
        have HO := Lib.hid hown; clear hown
        have HBE := Lib.hid hbel; clear hbel
        clear c0 c1 c2 c3 c4 c5 c6
        go_wp2
        have hP1 : PipeAt w1 b q rd wr sr sw := HP.out.fr (Fr.of_below HBE.out) id
        have hKL : K ≤ q.length := by have := HK.out; omega
        first
          | (have hKe : K = m := by have := HK.out; omega
             subst hKe
             go_ret2
             refine ⟨_, by rw [HH.out]; rfl, HO.out.fr (take_fr w1 b _ _ _) (fun k hk => by have := (HO.out.lt k hk).1; omega), take_stores hP1 at_ K hKL k6 _ _ _ (by omega) (by omega) rfl, ((Fr.of_below HBE.out).mono (S' := (· = b)) (fun _ h => h.elim)).trans (take_fr w1 b _ _ _) (fun _ _ h => h)⟩)
          | (have hKe : K = q.length := by have := HK.out; omega
             subst hKe
             go_ret2
             refine ⟨_, by rw [HH.out]; rfl, HO.out.fr (take_fr w1 b _ _ _) (fun k hk => by have := (HO.out.lt k hk).1; omega), take_stores hP1 at_ q.length (Nat.le_refl _) k6 _ _ _ (by omega) (by omega) rfl, ((Fr.of_below HBE.out).mono (S' := (· = b)) (fun _ h => h.elim)).trans (take_fr w1 b _ _ _) (fun _ _ h => h)⟩)

end Go.Proofs.Ytnfpjholmidnbaa
