/- The table of keys, as it is laid: what the condition gives; the heap that the door's own run leaves meets it. No condition. -/
import Derived.Test.YtollgpnaadgncaaDoorConA
import Derived.Test.YtollgpnaadgncaaDoorOpen
import Derived.LaidMore
import Derived.LaidLaws
import Derived.LaidHandle
import Derived.OpenShut
import Derived.ChangeVars
import Derived.Stop.Joined
namespace Go.Proofs.YtollgpnaadgncaaDoor
open Go.ChangeShapes Go.WideShapes Go.ChangeAt Go.RowKit

theorem own : ownKnob Tryd.prog.godebug = none := by kernel_rfl
theorem gKeys : Tryd.prog.globalNamed "hartix/console.keys" = some 0 := by kernel_rfl
theorem tKeys : (Tryd.prog.globals[0]?).map (·.type) = some 93 := by kernel_rfl
abbrev laidKeys : List (String × DataW Unit) := [("hartix/console.keys", Rows.laid_hartix_console_keys)]

/-- The door's own heap meets the condition. -/
theorem door_met (os : Os) (args : Array Value) : laidMetH Tryd.prog laidKeys ((World.doorLaid Tryd.prog 400 os).forCall (fun _ _ => 0) ⟨#[], args, []⟩).memory := by
  rw [MakeChecks.laidMetH_plain _ _ _ (by kernel_rfl)]
  exact laidMet_of_run' 8 (by kernel_rfl) (by kernel_rfl)

/-- two cells that read as two ints -/
theorem two_of_trod {W : World} {m : Nat} {held : Bool} {sp : Nat → Bool} {cs : List Value} {x y : Int} {ps : List MemPlace} {enc : TypeId × Value → Unit}
    (h : DataW.trod enc Tryd.prog W 0 sp held m 92 cs = some (.agg [.lit (.int .i64 x), .lit (.int .i64 y)], ps)) : cs[0]? = some (.int .i64 x) ∧ cs[1]? = some (.int .i64 y) := by
  obtain ⟨xs, n, _, hx, hl, hn, hf⟩ := DataW.trod_struct Tryd.underlying92 h
  have cI : Tryd.prog.cellsOf 3 = 1 := by kernel_rfl
  have h0 : DataW.trod enc Tryd.prog W 0 sp held n 3 ((cs.drop 0).take (Tryd.prog.cellsOf 3)) = xs[0]? := hf 0 _ rfl
  have h1 : DataW.trod enc Tryd.prog W 0 sp held n 3 ((cs.drop 1).take (Tryd.prog.cellsOf 3)) = xs[1]? := hf 1 _ rfl
  rw [cI] at h0 h1
  match xs, hn with
  | [a, b], _ =>
    simp only [List.map_cons, List.map_nil, Prod.mk.injEq, DataW.agg.injEq, List.cons.injEq] at hx
    obtain ⟨p0, e0, e0', _⟩ := DataW.trod_int Tryd.underlying3 (show DataW.trod enc Tryd.prog W 0 sp held n 3 _ = some a from h0)
    obtain ⟨p1, e1, e1', _⟩ := DataW.trod_int Tryd.underlying3 (show DataW.trod enc Tryd.prog W 0 sp held n 3 _ = some b from h1)
    have ha := hx.1.1
    have hb := hx.1.2.1
    rw [e0'] at ha
    rw [e1'] at hb
    have ha2 : x = p0 := by simpa using ha
    have hb2 : y = p1 := by simpa using hb
    subst ha2 hb2
    have t0 := congrArg (fun l => l[0]?) e0
    have t1 := congrArg (fun l => l[0]?) e1
    simp [List.getElem?_take, List.getElem?_drop] at t0 t1
    exact ⟨t0, t1⟩

theorem keys_of_laid {W : World} (h : laidMetH Tryd.prog laidKeys W) : KeysAt W := by
  rw [MakeChecks.laidMetH_plain _ _ _ (by kernel_rfl)] at h
  obtain ⟨ps, ⟨g0, t0, cs0, f0, p0, q0, hg0, ht0, hv0, hd0, _, _⟩, _, _⟩ := h
  obtain rfl := Option.some.inj (gKeys.symm.trans hg0)
  obtain rfl := Option.some.inj (tKeys.symm.trans ht0)
  have hcell := fun j => World.var?_cell hg0 hv0 j
  obtain ⟨xs, m1, _, hx1, hlen, hn3, hel⟩ := DataW.trod_array Tryd.underlying93 hd0
  have cE : Tryd.prog.cellsOf 92 = 2 := by kernel_rfl
  rw [cE] at hel
  have two : ∀ (i : Nat) (x y : Int), i < 6 → (xs[i]?).map (·.1) = some (.agg [.lit (.int .i64 x), .lit (.int .i64 y)]) → cs0.toList[i * 2]? = some (.int .i64 x) ∧ cs0.toList[i * 2 + 1]? = some (.int .i64 y) := by
    intro i x y hi hx
    have h := hel i hi
    cases hxi : xs[i]? with
    | none => rw [hxi] at hx; cases hx
    | some a =>
      rw [hxi] at hx h
      obtain ⟨a1, a2⟩ := a
      simp only [Option.map_some, Option.some.injEq] at hx
      subst hx
      obtain ⟨e0, e1⟩ := two_of_trod h
      simp [List.getElem?_take, List.getElem?_drop] at e0 e1
      exact ⟨by simpa using e0, by simpa using e1⟩
  simp only [Prod.mk.injEq, Rows.laid_hartix_console_keys, DataW.agg.injEq] at hx1
  have hmap : ∀ i : Nat, (xs[i]?).map (fun z : DataW Unit × List MemPlace => z.1) = (xs.map (fun z : DataW Unit × List MemPlace => z.1))[i]? := fun i => List.getElem?_map.symm
  have T := fun i x y hi h => two i x y hi ((hmap i).trans h)
  rw [← hx1.1] at T
  have e0 := T 0 0 1 (by omega) rfl
  have e1 := T 1 21 2 (by omega) rfl
  have e2 := T 2 8 3 (by omega) rfl
  have e3 := T 3 127 4 (by omega) rfl
  have e4 := T 4 4 5 (by omega) rfl
  have e5 := T 5 10 0 (by omega) rfl
  have c : ∀ (j : Nat) (v : Value), cs0.toList[j]? = some v → W.cell? ⟨0, j, none⟩ = some v := fun j v hj => by
    rw [show W.cell? ⟨0, j, none⟩ = cs0[j]? from hcell j]; simpa using hj
  have c0 := c 0 _ e0.1
  refine ⟨World.block_lt_of_cell? W _ c0, fun j hj => ?_⟩
  match j, hj with
  | 0, _ => exact c0
  | 1, _ => exact c 1 _ e0.2
  | 2, _ => exact c 2 _ e1.1
  | 3, _ => exact c 3 _ e1.2
  | 4, _ => exact c 4 _ e2.1
  | 5, _ => exact c 5 _ e2.2
  | 6, _ => exact c 6 _ e3.1
  | 7, _ => exact c 7 _ e3.2
  | 8, _ => exact c 8 _ e4.1
  | 9, _ => exact c 9 _ e4.2
  | 10, _ => exact c 10 _ e5.1
  | 11, _ => exact c 11 _ e5.2

end Go.Proofs.YtollgpnaadgncaaDoor
