/- hartixref11.Console: Type: a byte that is taken. No condition. -/
import Derived.Test.YtollgpnaadgncaaDoorRefJ
namespace Go.Proofs.YtollgpnaadgncaaDoor
open Go.RowKit

set_option maxRecDepth 100000 in
set_option maxHeartbeats 3200000 in
theorem reftype_full (base Q : Nat) (dv lv : Value) (dn ln : List Int) (c : Int) (w : World) (h : RefC w base Q dv lv dn ln) (hl : dn.length + ln.length = 128) (hc : c ≠ 21 ∧ c ≠ 8 ∧ c ≠ 127 ∧ c ≠ 0) :
    Calls Tryd.prog 27 #[.pointer (some ⟨Q, 0, none⟩), .int .u8 c] w (RefTypePost base Q dv lv dn ln c w) := by
  have c2 : w.cell? ⟨Q, 2, none⟩ = some (.bool true) := h.2.1.cell 2
  have FIN := Lib.hid (fun m => reftype_still (c := c) h ((Fr.refl No w).drewN m) (.inr (by omega)))
  obtain ⟨la, lc, rfl, hlc, _⟩ := row_shape h.2.2.2.1
  obtain ⟨da, dc, rfl, hdc, _⟩ := row_shape h.2.2.1
  have c0 : w.cell? ⟨Q, 0, none⟩ = some (.slice da dn.length dc) := h.2.1.cell 0
  have c1 : w.cell? ⟨Q, 1, none⟩ = some (.slice la ln.length lc) := h.2.1.cell 1
  have u21 : (c == 21) = false := by simp [hc.1]
  have u8 : (c == 8) = false := by simp [hc.2.1]
  have u127 : (c == 127) = false := by simp [hc.2.2.1]
  have u0 : (c == 0) = false := by simp [hc.2.2.2]
  have hsum : IntKind.i64.wrap ((dn.length : Int) + ln.length) = (dn.length : Int) + ln.length := IntWalk.i64_in _ (by omega)
  have hge : decide ((128 : Int) ≤ (dn.length : Int) + ln.length) = true := by simp; omega
  have hge2 : (128 : Int) ≤ (dn.length : Int) + ln.length := by omega
  clear h hc hl
  go_enter Tryd.func27, Tryd.ntmps27
  go_wp2_with (go_at_call 42; refine (refnone_calls Q _ c2).mono ?_; rintro e w' ⟨rfl, rfl⟩)
  go_quiet (fail)
  go_wp2_with fail
  go_ret2
  exact FIN.out _

end Go.Proofs.YtollgpnaadgncaaDoor
