/- hartixlaw0.Told, hartixref0.New, Same, hartixlaw0.Is: an error of one link against the document's refusal. No condition. -/
import Derived.Test.YtollgpnaadgncaaDoorConH
import Derived.Test.YtollgpnaadgncaaDoorRow
import Derived.Deep.LoopGhost
import Derived.Deep.RegionLawGrows
namespace Go.Proofs.YtollgpnaadgncaaDoor
open Go.RowKit

theorem infoLink : (Tryd.prog.info? 85).map (fun i => (i.zero, i.size, i.bytes)) = some (some (.agg #[.string ⟨#[]⟩, .int .i64 0]), 2, 24) := by kernel_rfl

/-- one link and a number, as plain data -/
def LinkAt (w : World) (base : Nat) (v : Value) (layer : ByteArray) (place : Int) : Prop :=
  ∃ G c, v = .slice (some ⟨G, 0, none⟩) 1 c ∧ base ≤ G ∧ w.cell? ⟨G, 0, none⟩ = some (.string layer) ∧ w.cell? ⟨G, 1, none⟩ = some (.int .i64 place)

theorem two_new (w : World) (x y : Value) (t : TypeId) : ∀ j u, [x, y][j]? = some u → (w.alloc (.cells #[x, y] t)).cell? ((⟨w.heap.size, 0, none⟩ : Addr).add j) = some u := by
  intro j u hj
  match j, hj with
  | 0, hj => simp at hj; subst hj; simp [Addr.add]
  | 1, hj => simp at hj; subst hj; simp [Addr.add]

theorem two_one (l : ByteArray) (x : Int) : ∀ u ∈ [Value.string l, .int .i64 x], u.oneCell' = true := by intro u hu; simp at hu; rcases hu with rfl | rfl <;> rfl
theorem slice_shape {w : World} {base : Nat} {e : TypeId} {size n : Nat} {v : Value} {xs : List Value} (h : w.ownsRow base e size v n xs) : ∃ ao c, v = .slice ao n c := by
  rcases h.2 with ⟨rfl, rfl⟩ | ⟨g, cap, cur, rfl, _⟩
  · exact ⟨_, _, rfl⟩
  · exact ⟨_, _, rfl⟩

theorem LinkAt.of_own {w : World} {base : Nat} {v : Value} {layer : ByteArray} {place : Int} (h : w.ownsRow base 85 2 v 1 [.string layer, .int .i64 place]) : LinkAt w base v layer place := by
  obtain ⟨_, ⟨_, h0⟩ | ⟨g, cap, cur, rfl, hb, hg, h1, h2, h3, h4⟩⟩ := h
  · cases h0
  · refine ⟨g, cap, rfl, hb, ?_, ?_⟩
    · rw [cell_of_row w g 0 cur 85 (0, 0) hg]
      have := congrArg (fun l => l[0]?) h4
      simpa [List.getElem?_take] using this
    · rw [cell_of_row w g 1 cur 85 (0, 0) hg]
      have := congrArg (fun l => l[1]?) h4
      simpa [List.getElem?_take] using this

theorem ta_fault (p : Option Addr) (w : World) : (Instr.typeAssert (.iface 74 (.pointer p)) 28 74 true).run Tryd.prog w = .ok (.tuple #[.pointer p, .bool true]) w := by kernel_rfl
theorem ta_no (n : Int) (w : World) : (Instr.typeAssert (.iface 75 (.int .i64 n)) 28 74 true).run Tryd.prog w = .ok (.tuple #[.pointer none, .bool false]) w := by kernel_rfl
theorem ta_errno (n : Int) (w : World) : (Instr.typeAssert (.iface 75 (.int .i64 n)) 28 75 true).run Tryd.prog w = .ok (.tuple #[.int .i64 n, .bool true]) w := by kernel_rfl

theorem LinkAt.fr {S : Nat → Prop} {w w' : World} {base : Nat} {v : Value} {layer : ByteArray} {place : Int} (h : LinkAt w base v layer place) (hf : Fr S w w') (hS : ∀ k, base ≤ k → ¬ S k) : LinkAt w' base v layer place := by
  obtain ⟨G, c, rfl, hb, h0, h1⟩ := h
  exact ⟨G, c, rfl, hb, hf.cell h0 (hS G hb), hf.cell h1 (hS G hb)⟩
theorem LinkAt.base {w : World} {base base' : Nat} {v : Value} {layer : ByteArray} {place : Int} (h : LinkAt w base v layer place) (hb : base' ≤ base) : LinkAt w base' v layer place := by
  obtain ⟨G, c, rfl, h2, h0, h1⟩ := h
  exact ⟨G, c, rfl, Nat.le_trans hb h2, h0, h1⟩

set_option maxRecDepth 100000 in
set_option maxHeartbeats 3200000 in
theorem told_calls (v : Value) (layer : ByteArray) (place code : Int) (w : World) (h : FaultAt w v layer place code) (hc : code ≠ 0) :
    Calls Tryd.prog 37 #[v] w fun e w' => ∃ l, e = .returned (.tuple #[.agg #[l, .int .i64 code], .bool true]) ∧ LinkAt w' w.heap.size l layer place ∧ Below w.heap.size w w' := by
  obtain ⟨i0, hi, hz0, hz1, hz2⟩ := info_parts infoLink
  obtain ⟨F, rfl, hb⟩ := h
  have c0 : w.cell? ⟨F, 0, none⟩ = some (.string layer) := hb.cell 0
  have c1 : w.cell? ⟨F, 1, none⟩ = some (.int .i64 place) := hb.cell 1
  have c2 : w.cell? ⟨F, 2, none⟩ = some (.iface 75 (.int .i64 code)) := hb.cell 2
  have hF := hb.lt
  have HB := Lib.hid hb; clear hb
  have hcb : (code != 0) = true := by simpa using hc
  have HC := Lib.hid hc; clear hc
  have ta1 := ta_fault
  have ta2 := ta_no
  have ta3 := ta_errno
  go_enter Tryd.func37, Tryd.ntmps37
  go_wp2
  generalize hW : (w.alloc _).alloc _ = W
  have F0 : Fr No w W := by rw [← hW]; exact ((Fr.refl _ _).alloc _).alloc _
  have hR : Blk W w.heap.size [.slice none 0 0, .int .i64 ((0 : Nat) : Int)] 38 := by rw [← hW]; exact (Blk.new w _ _).alloc _
  have hT : Blk W (w.heap.size + 1) [.slice none 0 0, .int .i64 ((0 : Nat) : Int)] 38 := by
    rw [← hW]
    have := Blk.new (w.alloc (.cells #[.slice none 0 0, .int .i64 0] 38)) [.slice none 0 0, .int .i64 ((0 : Nat) : Int)] 38
    simpa using this
  clear hW
  have c0 := F0.cell c0 id
  have c1 := F0.cell c1 id
  have c2 := F0.cell c2 id
  have r0 : W.cell? ⟨w.heap.size, 0, none⟩ = some (.slice none 0 0) := hR.cell 0
  have r1 : W.cell? ⟨w.heap.size, 1, none⟩ = some (.int .i64 0) := hR.cell 1
  have t0 : W.cell? ⟨w.heap.size + 1, 0, none⟩ = some (.slice none 0 0) := hT.cell 0
  have t1 : W.cell? ⟨w.heap.size + 1, 1, none⟩ = some (.int .i64 0) := hT.cell 1
  have fr0 := hR.free 0
  have fr1 := hR.free 1
  have ft0 := hT.free 0
  have ft1 := hT.free 1
  have hFW : F ≠ w.heap.size := by omega
  have hFW1 : F ≠ w.heap.size + 1 := by omega
  have hWs : w.heap.size + 1 < W.heap.size := hT.lt
  have HF0 := Lib.hid F0; clear F0
  have HR := Lib.hid hR; clear hR
  have HT := Lib.hid hT; clear hT
  refine wp_loop_rounds 2 ?_
  rw [rounds_succ]
  go_wp2_with fail
  go_region_law (first | (refine step_append_grows rfl (.tmp 30) (.tmp 40) 36 rfl 85 i0 _ 2 24 Tryd.underlying36 hi hz0 hz1 hz2 rfl (by decide) none 0 0 [] rfl (fun _ => ⟨rfl, rfl⟩) rfl (fun _ h => by cases h) ⟨W.heap.size, 0, none⟩ 1 1 [.string layer, .int .i64 place] rfl rfl (two_new W.drew _ _ _) (two_one _ _) (by omega) (by unfold maxLen; omega) (by omega) ?_; intro v' w' ho hg; obtain ⟨lo, lc, rfl⟩ := slice_shape ho; have hf : Fr No W w' := ((Fr.refl No W).drew.alloc _).grown hg (fun k hk => by cases hk); have e0 := hf.cell c0 id; have e2 := hf.cell c2 id; have e1 := hf.cell c1 id; have u0 := hf.cell t0 id; have u1 := hf.cell t1 id; have q0 := hf.cell r0 id; have q1 := hf.cell r1 id; have g0 := (HT.out.fr hf id).free 0; have g1 := (HT.out.fr hf id).free 1; have g2 := (HR.out.fr hf id).free 0; have g3 := (HR.out.fr hf id).free 1; have HOW := Lib.hid ho; have HFF := Lib.hid hf; clear ho hg hf))
  all_goals
    have HL := Lib.hid (LinkAt.of_own (by simpa using HOW.out))
    clear c0 c1 c2 r0 r1 t0 t1 fr0 fr1 ft0 ft1
    go_wp2_with fail
    rw [rounds_succ]
    go_wp2_with fail
    generalize hW2 : World.setCell _ _ _ = W2
    have hT2 : Blk W2 (w.heap.size + 1) [.slice lo 1 lc, .int .i64 code] 38 := by
      rw [← hW2]
      exact ((HT.out.fr HFF.out id).set 0 (.slice lo 1 lc)).set 1 (.int .i64 code)
    have hf2 : Fr (· = w.heap.size + 1) w' W2 := by
      rw [← hW2]
      exact ((Fr.refl (· = w.heap.size + 1) w').setCell (p := ⟨w.heap.size + 1, 0, none⟩) (fun _ => rfl) _).setCell (p := ⟨w.heap.size + 1, 1, none⟩) (fun _ => rfl) _
    have hR2 : Blk W2 w.heap.size [.slice none 0 0, .int .i64 ((0 : Nat) : Int)] 38 := (HR.out.fr HFF.out id).fr hf2 (fun h => by omega)
    clear hW2
    have s0 : W2.cell? ⟨w.heap.size + 1, 0, none⟩ = some (.slice lo 1 lc) := hT2.cell 0
    have s1 : W2.cell? ⟨w.heap.size + 1, 1, none⟩ = some (.int .i64 code) := hT2.cell 1
    have q0 : W2.cell? ⟨w.heap.size, 0, none⟩ = some (.slice none 0 0) := hR2.cell 0
    have q1 : W2.cell? ⟨w.heap.size, 1, none⟩ = some (.int .i64 0) := hR2.cell 1
    have fq0 := hR2.free 0
    have fq1 := hR2.free 1
    have HF2 := Lib.hid hf2
    have HR2 := Lib.hid hR2
    clear hT2 hf2 hR2 e0 e1 e2 u0 u1 g0 g1 g2 g3
    go_region_held3 (fun w' => w'.cell? ⟨w.heap.size + 1, 0, none⟩ = some (.slice lo 1 lc) ∧ w'.cell? ⟨w.heap.size + 1, 1, none⟩ = some (.int .i64 code) ∧ w'.frozen? ⟨w.heap.size, 0, none⟩ = false ∧ w'.frozen? ⟨w.heap.size, 1, none⟩ = false) (go_keep) (fail)
    generalize hW3 : World.setCell _ _ _ = W3
    have hf3 : Fr (· = w.heap.size) W2 W3 := by
      rw [← hW3]
      exact ((Fr.refl (· = w.heap.size) W2).setCell (p := ⟨w.heap.size, 0, none⟩) (fun _ => rfl) _).setCell (p := ⟨w.heap.size, 1, none⟩) (fun _ => rfl) _
    have hR3 : Blk W3 w.heap.size [.slice lo 1 lc, .int .i64 code] 38 := by
      rw [← hW3]
      exact (HR2.out.set 0 (.slice lo 1 lc)).set 1 (.int .i64 code)
    clear hW3
    have x0 : W3.cell? ⟨w.heap.size, 0, none⟩ = some (.slice lo 1 lc) := hR3.cell 0
    have x1 : W3.cell? ⟨w.heap.size, 1, none⟩ = some (.int .i64 code) := hR3.cell 1
    have FIN := Lib.hid (show LinkAt W3.drew w.heap.size (.slice lo 1 lc) layer place ∧ Below w.heap.size w W3.drew from by
      have hL2 := (HL.out.fr HF2.out (fun k hk hh => by have := hWs; omega)).fr hf3 (fun k hk hh => by omega)
      refine ⟨(hL2.fr (Fr.refl No _).drew (fun _ _ => id)).base (by omega), ?_⟩
      have hb : Below w.heap.size w w' := (HF0.out.trans HFF.out (fun _ _ h => h)).below
      exact (Fr.below_of (Fr.below_of hb HF2.out hb.size (fun k hk => by omega)) hf3 (by have := HF2.out.size; have := hb.size; omega) (fun k hk => by omega)).drew)
    clear hf3 hR3
    go_wp2_with fail
    exact bodyPost_ret (v := .tuple #[.agg #[.slice lo 1 lc, .int .i64 code], .bool true]) (by simp [results, Tryd.results37, go_sem, x0, x1]) rfl ⟨_, rfl, FIN.out⟩

end Go.Proofs.YtollgpnaadgncaaDoor
