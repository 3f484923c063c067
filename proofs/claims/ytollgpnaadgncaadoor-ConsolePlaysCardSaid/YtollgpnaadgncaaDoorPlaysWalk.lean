/- ConsolePlays: its arguments; the walk. No condition. -/
import Derived.Test.YtollgpnaadgncaaDoorPairF
namespace Go.Proofs.YtollgpnaadgncaaDoor
open Go.RowKit

/-- one call, as plain data -/
structure OpD where
  kind : Int
  b : Int
  n : Int
  data : List Int

def RdOp (w : World) (cs : List Value) (a : OpD) : Prop :=
  ∃ v, cs = [.int .i64 a.kind, .int .u8 a.b, .int .i64 a.n, v] ∧ BSl w v a.data ∧ (0 ≤ a.b ∧ a.b ≤ 255) ∧ I64 a.n ∧ InB a.data

section
variable {H : Type} (enc : TypeId × Value → H) (W : World)
theorem opens_op : Opens enc Tryd.prog W (fun _ => true) true 66 RdOp (fun a => a.data.length + 1) := by
  refine (opens_struct enc Tryd.prog W _ _ Tryd.underlying66 (N := 4) (by kernel_rfl)
    (opensF_cons enc Tryd.prog W _ _ (sz := 1) (by kernel_rfl) (opens_int enc Tryd.prog W _ _ Tryd.underlying3)
      (opensF_cons enc Tryd.prog W _ _ (sz := 1) (by kernel_rfl) (opens_int enc Tryd.prog W _ _ Tryd.underlying5)
        (opensF_cons enc Tryd.prog W _ _ (sz := 1) (by kernel_rfl) (opens_int enc Tryd.prog W _ _ Tryd.underlying3)
          (opensF_cons enc Tryd.prog W _ _ (sz := 1) (by kernel_rfl) (opens_bytes enc W) (opensF_nil enc Tryd.prog W _ _)))))).map enc Tryd.prog W _ _
    (fun x => ⟨x.1, x.2.1, x.2.2.1, x.2.2.2.1⟩) ?_ ?_
  · rintro cs ⟨x0, x1, x2, x3, _⟩ ⟨hl, ⟨h0, w0⟩, ⟨h1, w1⟩, ⟨h2, w2⟩, ⟨v, h3, s3⟩, _⟩
    obtain ⟨hb, hu⟩ := bsl_of_slv s3
    refine ⟨v, ?_, hb, wf_u8 w1, wf_i64 w2, hu⟩
    match cs, hl with
    | [c0, c1, c2, c3], _ => simp at h0 h1 h2 h3; simp [h0, h1, h2, h3]
  · rintro ⟨x0, x1, x2, x3, _⟩
    simp only [sum_ones]
    omega

/-- calls: how they lie -/
abbrev Ops := SlV RdOp 4 48

theorem opens_ops : Opens enc Tryd.prog W (fun _ => true) true 61 (RdSl RdOp 4 48) (fun xs => (xs.map fun a => a.data.length + 1).sum) :=
  opens_slice enc Tryd.prog W _ _ Tryd.underlying61 (by kernel_rfl) (by omega) (by kernel_rfl) (opens_op enc W)
end

theorem Ops.shape {w : World} {v : Value} {xs : List OpD} (h : Ops w v xs) : ∃ ao c, v = .slice ao xs.length c := by
  obtain ⟨ao, c, rfl, _⟩ := h; exact ⟨ao, c, rfl⟩
theorem Ops.len {w : World} {v : Value} {xs : List OpD} (h : Ops w v xs) : xs.length * 48 ≤ 140737488351232 := by
  obtain ⟨_, _, _, _, _, h, _⟩ := h; exact h

/-- call number k -/
theorem Ops.get {w : World} {ao : Option Addr} {n c : Nat} {xs : List OpD} (h : Ops w (.slice ao n c) xs) (k : Nat) (hk : k < xs.length) :
    ∃ b o, ao = some ⟨b, o, none⟩ ∧ b < w.heap.size ∧ ∃ da dc, BSl w (.slice da xs[k].data.length dc) xs[k].data ∧ (0 ≤ xs[k].b ∧ xs[k].b ≤ 255) ∧ I64 xs[k].n ∧ InB xs[k].data ∧
      ∀ S w', Fr S w w' → ¬ S b → w'.cell? ⟨b, o + k * 4, none⟩ = some (.int .i64 xs[k].kind) ∧ w'.cell? ⟨b, o + k * 4 + 1, none⟩ = some (.int .u8 xs[k].b) ∧ w'.cell? ⟨b, o + k * 4 + 2, none⟩ = some (.int .i64 xs[k].n) ∧
        w'.cell? ⟨b, o + k * 4 + 3, none⟩ = some (.slice da xs[k].data.length dc) := by
  obtain ⟨ao', c', hv, _, _, _, hc⟩ := h
  cases hv
  obtain ⟨b, o, rfl, hc2⟩ := hc (by intro e; simp [e] at hk)
  obtain ⟨cs, _, hcc, v, rfl, hb, h1, h2, h3⟩ := hc2 k xs[k] (List.getElem?_eq_getElem hk)
  obtain ⟨da, dc, rfl⟩ := hb.shape
  have e0 := hcc 0 (by omega)
  have e1 := hcc 1 (by omega)
  have e2 := hcc 2 (by omega)
  have e3 := hcc 3 (by omega)
  simp at e0 e1 e2 e3
  exact ⟨b, o, rfl, World.block_lt_of_cell? w _ e0, da, dc, hb, h1, h2, h3, fun S w' hf hn => ⟨hf.cell e0 hn, hf.cell e1 hn, hf.cell e2 hn, hf.cell e3 hn⟩⟩

abbrev Up (base : Nat) : Nat → Prop := fun k => base ≤ k

set_option maxRecDepth 100000 in
set_option maxHeartbeats 6400000 in
theorem plays_walk (d l : List Int) (v1 v2 ov : Value) (os : List OpD) (w : World) (h1 : BSl w v1 d) (h2 : BSl w v2 l) (g1 : InB d) (g2 : InB l) (ho : Ops w ov os) (hk : KeysAt w) :
    Calls Tryd.prog 8 #[.agg #[v1, v2], ov] w fun e w' => e = .returned (.bool true) ∧ Below w.heap.size w w' := by
  obtain ⟨a1, c1, rfl⟩ := h1.shape
  obtain ⟨a2, c2, rfl⟩ := h2.shape
  obtain ⟨ao, oc, rfl⟩ := ho.shape
  have hol := ho.len
  have H1 := Lib.hid h1; clear h1
  have H2 := Lib.hid h2; clear h2
  have G1 := Lib.hid g1; clear g1
  have G2 := Lib.hid g2; clear g2
  have HOP := Lib.hid ho; clear ho
  have HK := Lib.hid hk; clear hk
  go_enter Tryd.func8, Tryd.ntmps8
  go_wp2_with fail
  generalize hW : w.alloc _ = W
  have F0 : Fr No w W := by rw [← hW]; exact (Fr.refl _ _).alloc _
  clear hW
  have hws := F0.size
  have hw0 := HK.out.1
  have HF0 := Lib.hid F0; clear F0
  refine (pairfrom_calls d l _ _ W (H1.out.no HF0.out) (H2.out.no HF0.out) G1.out G2.out (HK.out.no HF0.out)).mono ?_
  intro e w1 hp
  unfold PairFromPost at hp
  rcases hp with ⟨A, P, Q, dv, lv, rfl, hpa, hb1⟩ | ⟨rfl, hb1⟩
  case inr =>
    have FIN := Lib.hid (HF0.out.trans (Fr.of_below hb1) (fun _ _ h => h)).below
    clear hb1
    go_wp2_with fail
    go_ret
    exact ⟨rfl, FIN.out⟩
  have HPA := Lib.hid hpa
  have HF1 := Lib.hid (HF0.out.trans (Fr.of_below hb1) (fun _ _ h => h))
  clear hpa hb1
  go_wp2_with fail
  go_loopg [7] 600 (fun g i wx => ∃ k : Nat, k ≤ os.length ∧ k ≤ 600 ∧ g = 600 - k ∧ i = .int .i64 k ∧ (∃ P' Q' dv' lv' xs' r', PairAt wx W.heap.size A P' Q' dv' lv' xs' r') ∧ Fr (Up W.heap.size) w wx)
  case atStart => exact ⟨0, Nat.zero_le _, Nat.zero_le _, rfl, rfl, ⟨P, Q, dv, lv, _, _, HPA.out⟩, HF1.out.mono (fun _ h => h.elim)⟩
  case round =>
    obtain ⟨k, hk, hk6, rfl, rfl, ⟨P', Q', dv', lv', xs', r', hpa⟩, hfr⟩ := hrel
    have HPX := Lib.hid hpa; clear hpa
    have HFR := Lib.hid hfr; clear hfr
    by_cases hboth : k < os.length ∧ k < 600
    · obtain ⟨hlt, h6⟩ := hboth
      obtain ⟨b, o, rfl, hbl, da, dc, hdb, hbb, hnn, hdi, hcells⟩ := HOP.out.get k hlt
      have hlow := hdb.lowb
      obtain ⟨e0, e1, e2, e3⟩ := hcells _ _ HFR.out (by show ¬ W.heap.size ≤ b; omega)
      obtain ⟨X, hX⟩ : ∃ X, X = os[k] := ⟨_, rfl⟩
      rw [← hX] at e0 e1 e2 e3 hdb hbb hnn hdi hlow
      obtain ⟨kd, kb, kn, kds⟩ := X
      have e0 : wr.cell? ⟨b, o + k * 4, none⟩ = some (.int .i64 kd) := e0
      have e1 : wr.cell? ⟨b, o + k * 4 + 1, none⟩ = some (.int .u8 kb) := e1
      have e2 : wr.cell? ⟨b, o + k * 4 + 2, none⟩ = some (.int .i64 kn) := e2
      have e3 : wr.cell? ⟨b, o + k * 4 + 3, none⟩ = some (.slice da kds.length dc) := e3
      have hdb2 := BSl.low (w' := wr) hdb (base := W.heap.size) (fun hne q hq => by have := hlow hne q hq; omega) HFR.out (fun _ h => h)
      have HST := Lib.hid (step_calls W.heap.size A P' Q' dv' lv' xs' r' kd kb kn (.slice da kds.length dc) kds wr HPX.out (HK.out.fr HFR.out (by show ¬ W.heap.size ≤ 0; omega)) (by omega) hbb hnn hdb2 hdi (fun hne q hq => by have := hlow hne q hq; omega))
      clear hX hcells hdb hbb hnn hdi hlow hdb2
      go_wp2_with fail
      refine HST.out.mono ?_
      intro e w2 hp
      unfold PairPost at hp
      obtain ⟨rfl, P2, Q2, dv2, lv2, xs2, r2, hto⟩ := hp
      have HF2 := Lib.hid (HFR.out.trans (hto.2.2.mono (S' := Up W.heap.size) (fun q hq => HPX.out.low q hq)) (fun _ _ h => h))
      have HP2 := Lib.hid hto.1
      clear hto e0 e1 e2 e3
      go_wp2_with fail
      refine (step5_calls W.heap.size A P2 Q2 dv2 lv2 xs2 r2 0 0 (.slice none 0 0) [] w2 HP2.out (BSl.nil _)).mono ?_
      intro e w3 hp
      unfold PairPost at hp
      obtain ⟨rfl, P3, Q3, dv3, lv3, xs3, r3, hto⟩ := hp
      have HF3 := Lib.hid (HF2.out.trans (hto.2.2.mono (S' := Up W.heap.size) (fun q hq => HP2.out.low q hq)) (fun _ _ h => h))
      have HP3 := Lib.hid hto.1
      clear hto
      go_wp2_with fail
      go_roundg (600 - (k + 1))
      case measure => omega
      case rel => exact ⟨k + 1, by omega, by omega, rfl, by go_num, ⟨P3, Q3, dv3, lv3, xs3, r3, HP3.out⟩, HF3.out⟩
    · have FIN := Lib.hid (Fr.below_of (Below.refl w.heap.size w) HFR.out (Nat.le_refl _) (fun k hk => Nat.le_trans hws hk))
      by_cases hA : k < os.length
      case' pos => have hB : ¬ k < 600 := fun h => hboth ⟨hA, h⟩
      case' neg => have hB : True := trivial
      all_goals
        clear hboth
        go_wp2_with fail
        go_ret
        exact ⟨rfl, FIN.out⟩

end Go.Proofs.YtollgpnaadgncaaDoor
