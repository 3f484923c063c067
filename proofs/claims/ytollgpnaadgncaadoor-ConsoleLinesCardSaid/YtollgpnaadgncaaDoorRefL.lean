/- hartixref11.Console: Type: a byte that is taken. No condition. -/
import Derived.Test.YtollgpnaadgncaaDoorRefK
namespace Go.Proofs.YtollgpnaadgncaaDoor
open Go.RowKit

theorem reftype_put {base Q : Nat} {dv lv lv1 : Value} {dn ln : List Int} {x : Int} {w w0 w1 : World} (h : RefC w base Q dv lv dn ln) (h0 : Fr No w w0) (hr : Row 5 .u8 w1 base lv1 (ln ++ [x])) (hf : Fr (fun k => lv.ownBlock = some k ∧ lv1.ownBlock = some k) w0 w1)
    (hn : ∀ k, lv1.ownBlock = some k → lv.ownBlock = some k ∨ w0.heap.size ≤ k) :
    RefC (w1.setCell ⟨Q, 1, none⟩ lv1) base Q dv lv1 dn (ln ++ [x]) ∧ Fr (fun k => k = Q ∨ lv.ownBlock = some k) w (w1.setCell ⟨Q, 1, none⟩ lv1) ∧ (∀ k, lv1.ownBlock = some k → lv.ownBlock = some k ∨ w.heap.size ≤ k) := by
  have hb0 := h.no h0
  have s0 := h0.size
  have hb1 : Blk w1 Q [dv, lv, .bool true] 80 := hb0.2.1.fr hf (fun hh => h.lvQ Q hh.1 rfl)
  have hfs : Fr (· = Q) w1 (w1.setCell ⟨Q, 1, none⟩ lv1) := (Fr.refl (· = Q) w1).setCell (p := ⟨Q, 1, none⟩) (fun _ => rfl) _
  have hd1 := row_fr hb0.2.2.1 hf (fun k hk hh => h.2.2.2.2 k hk hh.1)
  refine ⟨⟨?_, hb1.set 1 lv1, row_fr hd1 hfs (fun k hk e => h.dvQ k hk e), row_fr hr hfs (fun k hk e => row_ne_blk hr hb1 (by decide) k hk e), fun k hk hk2 => ?_⟩, ?_, fun k hk => ?_⟩
  · have := h.1; have := hf.size; simp [World.setCell]; omega
  · rcases hn k hk2 with hh | hh
    · exact h.2.2.2.2 k hk hh
    · have := (h.2.2.1.lt k hk).2; omega
  · exact ((h0.mono (S' := fun k => k = Q ∨ lv.ownBlock = some k) (fun _ h => h.elim)).trans (hf.mono (S' := fun k => k = Q ∨ lv.ownBlock = some k) (fun _ h => .inr h.1)) (fun _ _ h => h)).trans hfs (fun _ _ h => .inl h)
  · rcases hn k hk with hh | hh
    · exact .inl hh
    · exact .inr (by omega)

theorem own_new {w : World} {base : Nat} (x : Int) (hb : base ≤ w.heap.size) : Own (w.alloc (.cells #[.int .u8 x] 5)) base (.slice (some ⟨w.heap.size, 0, none⟩) 1 1) [x] := own_one w base x hb

set_option maxRecDepth 100000 in
set_option maxHeartbeats 6400000 in
theorem reftype_go (base Q : Nat) (dv lv : Value) (dn ln : List Int) (c : Int) (w : World) (h : RefC w base Q dv lv dn ln) (hl : dn.length + ln.length < 128) (hl2 : dn.length + ln.length + 1 < 128) (hc : c ≠ 21 ∧ c ≠ 8 ∧ c ≠ 127 ∧ c ≠ 0 ∧ c ≠ 4 ∧ c ≠ 10 ∧ c ≠ 13) :
    Calls Tryd.prog 27 #[.pointer (some ⟨Q, 0, none⟩), .int .u8 c] w (RefTypePost base Q dv lv dn ln c w) := by
  obtain ⟨i0, hi, hz0, hz1, hz2⟩ := info_parts infoU8
  have c2 : w.cell? ⟨Q, 2, none⟩ = some (.bool true) := h.2.1.cell 2
  have u21 : (c == 21) = false := by simp; omega
  have u8 : (c == 8) = false := by simp; omega
  have u127 : (c == 127) = false := by simp; omega
  have u0 : (c == 0) = false := by simp; omega
  have u13 : (c == 13) = false := by simp; omega
  have u4 : (c == 4) = false := by simp; omega
  have v10 : (c != 10) = true := by simp; omega
  have v4 : (c != 4) = true := by simp; omega
  have HX := Lib.hid (show c = tyC c by unfold tyC; rw [if_neg (by omega)])
  have HC := Lib.hid (show c ≠ 21 ∧ c ≠ 8 ∧ c ≠ 127 ∧ c ≠ 0 by omega)
  have HNF := Lib.hid (show ¬ (tyC c = 10 ∨ c = 4) by unfold tyC; rw [if_neg (by omega)]; omega)
  clear hc
  obtain ⟨la, lc, rfl, hlc, _⟩ := row_shape h.2.2.2.1
  obtain ⟨da, dc, rfl, hdc, _⟩ := row_shape h.2.2.1
  have c0 : w.cell? ⟨Q, 0, none⟩ = some (.slice da dn.length dc) := h.2.1.cell 0
  have c1 : w.cell? ⟨Q, 1, none⟩ = some (.slice la ln.length lc) := h.2.1.cell 1
  obtain ⟨Ln, hLn⟩ : ∃ Ln, Ln = ln.length := ⟨_, rfl⟩
  have hrow := h.2.2.2.1
  unfold Row at hrow
  rw [← hLn] at c1 hrow h hl hl2 hlc ⊢
  have hsum : IntKind.i64.wrap ((dn.length : Int) + Ln) = (dn.length : Int) + Ln := IntWalk.i64_in _ (by omega)
  have hge : decide ((128 : Int) ≤ (dn.length : Int) + Ln) = false := by simp; omega
  have hge2 : ¬ (128 : Int) ≤ (dn.length : Int) + Ln := by omega
  have H := Lib.hid h; clear h
  have HROW := Lib.hid hrow; clear hrow
  have HLN := Lib.hid hLn; clear hLn
  go_enter Tryd.func27, Tryd.ntmps27
  go_wp2_with (go_at_call 42; refine (refnone_calls Q _ c2).mono ?_; rintro e w' ⟨rfl, rfl⟩)
  go_quiet (fail)
  clear hsum hge hge2
  generalize hW0 : w.drewN _ = W0
  have F0 : Fr No w W0 := by rw [← hW0]; exact (Fr.refl No w).drewN _
  clear hW0
  have hb0 := (H.out.no F0).2.1
  have c1 : W0.cell? ⟨Q, 1, none⟩ = some (.slice la Ln lc) := hb0.cell 1
  have HF0 := Lib.hid F0
  have hrow0 := row_fr HROW.out F0 (fun _ _ => id)
  have HROW0 := Lib.hid hrow0
  have hsz0 : base ≤ W0.heap.size := (H.out.no F0).1
  clear hrow0 F0 hb0
  go_wp2_with (at_builtin; refine wpList_append_one rfl _ _ 22 rfl base 5 i0 (.int .u8 0) 1 Tryd.underlying22 hi hz0 hz1 hz2 rfl (.slice la Ln lc) Ln (ln.map (Value.int .u8)) rfl (HROW0.out.alloc _) _ _ (.int .u8 c) rfl ?cell rfl ?h63 ?hby ?hba ?_)
  case cell => exact (Blk.new _ [Value.int .u8 c] 5).cell 0
  case h63 => unfold maxLen; omega
  case hby => omega
  case hba => simp; omega
  intro lv1 w1 hown hf hn
  have hf := ((Fr.refl _ W0).alloc _).trans hf (fun _ _ h => h)
  have hput := reftype_put (x := c) (w0 := W0) H.out HF0.out (by unfold Row; rw [List.length_append, List.length_singleton, ← HLN.out, List.map_append]; exact hown) hf (fun k hk => by
    rcases hn k hk with h1 | h1
    · exact .inl h1
    · have h2 : W0.heap.size + 1 ≤ k := by simpa using h1
      exact .inr (by omega))
  obtain ⟨l1a, l1c, rfl, hl1c, _⟩ := row_shape hown
  have hb1 : Blk w1 Q [.slice da dn.length dc, .slice la Ln lc, .bool true] 80 := (H.out.no HF0.out).2.1.fr hf (fun hh => H.out.lvQ Q hh.1 rfl)
  have c1 : w1.cell? ⟨Q, 1, none⟩ = some (.slice la Ln lc) := hb1.cell 1
  have f1 := hb1.free 1
  have HPUT := Lib.hid hput
  clear hput hown hf hn hb1
  go_upto_region 21 with fail
  generalize hW1 : World.setCell _ _ _ = W1 at HPUT ⊢
  clear hW1 c1 f1
  have hb1 := HPUT.out.1.2.1
  have c0 : W1.cell? ⟨Q, 0, none⟩ = some (.slice da dn.length dc) := hb1.cell 0
  have c1 : W1.cell? ⟨Q, 1, none⟩ = some (.slice l1a (Ln + 1) l1c) := hb1.cell 1
  have hQl1 : Q < W1.heap.size := hb1.lt
  clear hb1
  have hsum : IntKind.i64.wrap ((dn.length : Int) + (Ln + 1)) = (dn.length : Int) + (Ln + 1) := IntWalk.i64_in _ (by omega)
  have hlt : decide ((dn.length : Int) + (Ln + 1) < 128) = true := by simp; omega
  have hlt2 : (dn.length : Int) + (Ln + 1) < 128 := by omega
  go_wp2_with fail
  generalize hW2 : W1.alloc _ = W2
  have F2 : Fr No W1 W2 := by rw [← hW2]; exact (Fr.refl No W1).alloc _
  have hown2 : Own W2 W1.heap.size (.slice (some ⟨W1.heap.size, 0, none⟩) 1 1) [c] := by rw [← hW2]; exact own_new c (Nat.le_refl _)
  clear hW2
  have c0 := F2.cell c0 id
  have c1 := F2.cell c1 id
  have FIN := Lib.hid (fun m => reftype_more (c := c) HX.out HC.out (by have := HLN.out; omega) HNF.out HPUT.out.1 HPUT.out.2.1 HPUT.out.2.2 (F2.drewN m) (hown2.fr ((Fr.refl No W2).drewN m) (fun _ _ => id)))
  clear F2 hown2
  go_quiet (fail)
  go_wp2_with fail
  go_ret2
  exact FIN.out _

set_option maxRecDepth 100000 in
set_option maxHeartbeats 6400000 in
theorem reftype_last (base Q : Nat) (dv lv : Value) (dn ln : List Int) (c : Int) (w : World) (h : RefC w base Q dv lv dn ln) (hl : dn.length + ln.length < 128) (hl2 : dn.length + ln.length + 1 = 128) (hc : c ≠ 21 ∧ c ≠ 8 ∧ c ≠ 127 ∧ c ≠ 0 ∧ c ≠ 4 ∧ c ≠ 10 ∧ c ≠ 13) :
    Calls Tryd.prog 27 #[.pointer (some ⟨Q, 0, none⟩), .int .u8 c] w (RefTypePost base Q dv lv dn ln c w) := by
  obtain ⟨i0, hi, hz0, hz1, hz2⟩ := info_parts infoU8
  have c2 : w.cell? ⟨Q, 2, none⟩ = some (.bool true) := h.2.1.cell 2
  have u21 : (c == 21) = false := by simp; omega
  have u8 : (c == 8) = false := by simp; omega
  have u127 : (c == 127) = false := by simp; omega
  have u0 : (c == 0) = false := by simp; omega
  have u13 : (c == 13) = false := by simp; omega
  have u4 : (c == 4) = false := by simp; omega
  have v10 : (c != 10) = true := by simp; omega
  have v4 : (c != 4) = true := by simp; omega
  have HX := Lib.hid (show c = tyC c by unfold tyC; rw [if_neg (by omega)])
  have HC := Lib.hid (show c ≠ 21 ∧ c ≠ 8 ∧ c ≠ 127 ∧ c ≠ 0 by omega)
  have HN4 := Lib.hid (show ¬ c = 4 by omega)
  have HL2 := Lib.hid hl2
  have hl3 : 128 ≤ dn.length + ln.length + 1 := by omega
  clear hc hl2
  obtain ⟨la, lc, rfl, hlc, _⟩ := row_shape h.2.2.2.1
  obtain ⟨da, dc, rfl, hdc, _⟩ := row_shape h.2.2.1
  have c0 : w.cell? ⟨Q, 0, none⟩ = some (.slice da dn.length dc) := h.2.1.cell 0
  have c1 : w.cell? ⟨Q, 1, none⟩ = some (.slice la ln.length lc) := h.2.1.cell 1
  obtain ⟨Ln, hLn⟩ : ∃ Ln, Ln = ln.length := ⟨_, rfl⟩
  have hrow := h.2.2.2.1
  unfold Row at hrow
  rw [← hLn] at c1 hrow h hl hl3 hlc ⊢
  have hsum : IntKind.i64.wrap ((dn.length : Int) + Ln) = (dn.length : Int) + Ln := IntWalk.i64_in _ (by omega)
  have hge : decide ((128 : Int) ≤ (dn.length : Int) + Ln) = false := by simp; omega
  have hge2 : ¬ (128 : Int) ≤ (dn.length : Int) + Ln := by omega
  have H := Lib.hid h; clear h
  have HROW := Lib.hid hrow; clear hrow
  have HLN := Lib.hid hLn; clear hLn
  go_enter Tryd.func27, Tryd.ntmps27
  go_wp2_with (go_at_call 42; refine (refnone_calls Q _ c2).mono ?_; rintro e w' ⟨rfl, rfl⟩)
  go_quiet (fail)
  clear hsum hge hge2
  generalize hW0 : w.drewN _ = W0
  have F0 : Fr No w W0 := by rw [← hW0]; exact (Fr.refl No w).drewN _
  clear hW0
  have hb0 := (H.out.no F0).2.1
  have c1 : W0.cell? ⟨Q, 1, none⟩ = some (.slice la Ln lc) := hb0.cell 1
  have HF0 := Lib.hid F0
  have hrow0 := row_fr HROW.out F0 (fun _ _ => id)
  have HROW0 := Lib.hid hrow0
  have hsz0 : base ≤ W0.heap.size := (H.out.no F0).1
  clear hrow0 F0 hb0
  go_wp2_with (at_builtin; refine wpList_append_one rfl _ _ 22 rfl base 5 i0 (.int .u8 0) 1 Tryd.underlying22 hi hz0 hz1 hz2 rfl (.slice la Ln lc) Ln (ln.map (Value.int .u8)) rfl (HROW0.out.alloc _) _ _ (.int .u8 c) rfl ?cell rfl ?h63 ?hby ?hba ?_)
  case cell => exact (Blk.new _ [Value.int .u8 c] 5).cell 0
  case h63 => unfold maxLen; omega
  case hby => omega
  case hba => simp; omega
  intro lv1 w1 hown hf hn
  have hf := ((Fr.refl _ W0).alloc _).trans hf (fun _ _ h => h)
  have hput := reftype_put (x := c) (w0 := W0) H.out HF0.out (by unfold Row; rw [List.length_append, List.length_singleton, ← HLN.out, List.map_append]; exact hown) hf (fun k hk => by
    rcases hn k hk with h1 | h1
    · exact .inl h1
    · have h2 : W0.heap.size + 1 ≤ k := by simpa using h1
      exact .inr (by omega))
  obtain ⟨l1a, l1c, rfl, hl1c, _⟩ := row_shape hown
  have hb1 : Blk w1 Q [.slice da dn.length dc, .slice la Ln lc, .bool true] 80 := (H.out.no HF0.out).2.1.fr hf (fun hh => H.out.lvQ Q hh.1 rfl)
  have c1 : w1.cell? ⟨Q, 1, none⟩ = some (.slice la Ln lc) := hb1.cell 1
  have f1 := hb1.free 1
  have HPUT := Lib.hid hput
  clear hput hown hf hn hb1
  go_upto_region 21 with fail
  generalize hW1 : World.setCell _ _ _ = W1 at HPUT ⊢
  clear hW1 c1 f1
  have hb1 := HPUT.out.1.2.1
  have c0 : W1.cell? ⟨Q, 0, none⟩ = some (.slice da dn.length dc) := hb1.cell 0
  have c1 : W1.cell? ⟨Q, 1, none⟩ = some (.slice l1a (Ln + 1) l1c) := hb1.cell 1
  have hQl1 : Q < W1.heap.size := hb1.lt
  clear hb1
  have hsum : IntKind.i64.wrap ((dn.length : Int) + (Ln + 1)) = (dn.length : Int) + (Ln + 1) := IntWalk.i64_in _ (by omega)
  have hlt : decide ((dn.length : Int) + (Ln + 1) < 128) = false := by simp; omega
  have hlt2 : ¬ (dn.length : Int) + (Ln + 1) < 128 := by omega
  go_wp2_with fail
  generalize hW2 : W1.alloc _ = W2
  have F2 : Fr No W1 W2 := by rw [← hW2]; exact (Fr.refl No W1).alloc _
  have hown2 : Own W2 W1.heap.size (.slice (some ⟨W1.heap.size, 0, none⟩) 1 1) [c] := by rw [← hW2]; exact own_new c (Nat.le_refl _)
  clear hW2
  have c0 := F2.cell c0 id
  have c1 := F2.cell c1 id
  have hF2 := Lib.hid F2
  have HO2 := Lib.hid hown2
  clear F2 hown2
  go_quiet (fail)
  generalize hW3 : W2.drewN _ = W3
  have F3 : Fr No W2 W3 := by rw [← hW3]; exact (Fr.refl No W2).drewN _
  clear hW3
  have FIN := Lib.hid (fun w4 v4 h4 hb => reftype_line (c := c) (w4 := w4) (v4 := v4) HX.out HC.out (by have := HLN.out; omega) (.inr (by have := HL2.out; have := HLN.out; omega)) HPUT.out.1 HPUT.out.2.1 (hF2.out.trans F3 (fun _ _ h => h)) (by first | (rw [if_pos rfl]; exact HO2.out.fr F3 (fun _ _ => id)) | (rw [if_neg HN4.out]; exact HO2.out.fr F3 (fun _ _ => id))) h4 hb)
  have hr3 := HPUT.out.1.no (hF2.out.trans F3 (fun _ _ h => h))
  have c0 : W3.cell? ⟨Q, 0, none⟩ = some (.slice da dn.length dc) := hr3.2.1.cell 0
  have c1 : W3.cell? ⟨Q, 1, none⟩ = some (.slice l1a (Ln + 1) l1c) := hr3.2.1.cell 1
  have hbd := BSl.of_own hr3.2.2.1 (by omega)
  have hbl := BSl.of_own hr3.2.2.2.1 (by rw [List.length_append, List.length_singleton, ← HLN.out]; omega)
  have HR3 := Lib.hid hr3
  have HBD := Lib.hid hbd
  have HBL := Lib.hid hbl
  clear F3 hr3 hbd hbl
  clear hsum hlt hlt2
  go_wp2_with fail
  go_region_law (first
    | (go_simp; go_at_call 36; refine (joined_calls dn (ln ++ [c]) _ _ _ (HBD.out.no (Fr.refl No _).drew) (HBL.out.no (Fr.refl No _).drew) (by rw [List.length_append, List.length_singleton, ← HLN.out]; omega)).mono ?_; rintro e w4 ⟨v4, rfl, ho4, hb4⟩; obtain ⟨a4, b4, hv4⟩ := ho4.shape; obtain ⟨L4, hL4⟩ : ∃ L, L = (dn ++ (ln ++ [c])).length := ⟨_, rfl⟩; rw [← hL4] at hv4; subst hv4; clear hL4; have hC4 := (HR3.out.no (Fr.refl No _).drew).no (Fr.of_below hb4); have k0 : w4.cell? ⟨Q, 0, none⟩ = some (.slice da dn.length dc) := hC4.2.1.cell 0; have k1 : w4.cell? ⟨Q, 1, none⟩ = some (.slice l1a (Ln + 1) l1c) := hC4.2.1.cell 1; have g0 := hC4.2.1.free 0; have g1 := hC4.2.1.free 1; have HO4 := Lib.hid ho4; have HB4 := Lib.hid hb4; clear ho4 hb4 hC4))
  all_goals
    have FI := Lib.hid (FIN.out w4 _ (HO4.out.base (Nat.le_refl _)) (by exact (Fr.below_of (Below.refl _ W3) ((Fr.refl No W3).drew.trans (Fr.of_below HB4.out) (fun _ _ h => h)) (Nat.le_refl _) (fun _ h => h.elim))))
    go_wp2_with fail
    go_ret2
    exact FI.out

set_option maxRecDepth 100000 in
set_option maxHeartbeats 6400000 in
theorem reftype_cr (base Q : Nat) (dv lv : Value) (dn ln : List Int) (w : World) (h : RefC w base Q dv lv dn ln) (hl : dn.length + ln.length < 128) :
    Calls Tryd.prog 27 #[.pointer (some ⟨Q, 0, none⟩), .int .u8 13] w (RefTypePost base Q dv lv dn ln 13 w) := by
  obtain ⟨i0, hi, hz0, hz1, hz2⟩ := info_parts infoU8
  have c2 : w.cell? ⟨Q, 2, none⟩ = some (.bool true) := h.2.1.cell 2
  have HN4 := Lib.hid (show ¬ (13 : Int) = 4 by decide)
  have HX := Lib.hid (show (10 : Int) = tyC 13 from rfl)
  have HC := Lib.hid (show (13 : Int) ≠ 21 ∧ (13 : Int) ≠ 8 ∧ (13 : Int) ≠ 127 ∧ (13 : Int) ≠ 0 by decide)
  obtain ⟨la, lc, rfl, hlc, _⟩ := row_shape h.2.2.2.1
  obtain ⟨da, dc, rfl, hdc, _⟩ := row_shape h.2.2.1
  have c0 : w.cell? ⟨Q, 0, none⟩ = some (.slice da dn.length dc) := h.2.1.cell 0
  have c1 : w.cell? ⟨Q, 1, none⟩ = some (.slice la ln.length lc) := h.2.1.cell 1
  obtain ⟨Ln, hLn⟩ : ∃ Ln, Ln = ln.length := ⟨_, rfl⟩
  have hrow := h.2.2.2.1
  unfold Row at hrow
  rw [← hLn] at c1 hrow h hl hlc ⊢
  have hsum : IntKind.i64.wrap ((dn.length : Int) + Ln) = (dn.length : Int) + Ln := IntWalk.i64_in _ (by omega)
  have hge : decide ((128 : Int) ≤ (dn.length : Int) + Ln) = false := by simp; omega
  have hge2 : ¬ (128 : Int) ≤ (dn.length : Int) + Ln := by omega
  have H := Lib.hid h; clear h
  have HROW := Lib.hid hrow; clear hrow
  have HLN := Lib.hid hLn; clear hLn
  go_enter Tryd.func27, Tryd.ntmps27
  go_wp2_with (go_at_call 42; refine (refnone_calls Q _ c2).mono ?_; rintro e w' ⟨rfl, rfl⟩)
  go_quiet (fail)
  clear hsum hge hge2
  generalize hW0 : w.drewN _ = W0
  have F0 : Fr No w W0 := by rw [← hW0]; exact (Fr.refl No w).drewN _
  clear hW0
  have hb0 := (H.out.no F0).2.1
  have c1 : W0.cell? ⟨Q, 1, none⟩ = some (.slice la Ln lc) := hb0.cell 1
  have HF0 := Lib.hid F0
  have hrow0 := row_fr HROW.out F0 (fun _ _ => id)
  have HROW0 := Lib.hid hrow0
  have hsz0 : base ≤ W0.heap.size := (H.out.no F0).1
  clear hrow0 F0 hb0
  go_wp2_with (at_builtin; refine wpList_append_one rfl _ _ 22 rfl base 5 i0 (.int .u8 0) 1 Tryd.underlying22 hi hz0 hz1 hz2 rfl (.slice la Ln lc) Ln (ln.map (Value.int .u8)) rfl (HROW0.out.alloc _) _ _ (.int .u8 10) rfl ?cell rfl ?h63 ?hby ?hba ?_)
  case cell => exact (Blk.new _ [Value.int .u8 10] 5).cell 0
  case h63 => unfold maxLen; omega
  case hby => omega
  case hba => simp; omega
  intro lv1 w1 hown hf hn
  have hf := ((Fr.refl _ W0).alloc _).trans hf (fun _ _ h => h)
  have hput := reftype_put (x := 10) (w0 := W0) H.out HF0.out (by unfold Row; rw [List.length_append, List.length_singleton, ← HLN.out, List.map_append]; exact hown) hf (fun k hk => by
    rcases hn k hk with h1 | h1
    · exact .inl h1
    · have h2 : W0.heap.size + 1 ≤ k := by simpa using h1
      exact .inr (by omega))
  obtain ⟨l1a, l1c, rfl, hl1c, _⟩ := row_shape hown
  have hb1 : Blk w1 Q [.slice da dn.length dc, .slice la Ln lc, .bool true] 80 := (H.out.no HF0.out).2.1.fr hf (fun hh => H.out.lvQ Q hh.1 rfl)
  have c1 : w1.cell? ⟨Q, 1, none⟩ = some (.slice la Ln lc) := hb1.cell 1
  have f1 := hb1.free 1
  have HPUT := Lib.hid hput
  clear hput hown hf hn hb1
  go_upto_region 21 with fail
  generalize hW1 : World.setCell _ _ _ = W1 at HPUT ⊢
  clear hW1 c1 f1
  have hb1 := HPUT.out.1.2.1
  have c0 : W1.cell? ⟨Q, 0, none⟩ = some (.slice da dn.length dc) := hb1.cell 0
  have c1 : W1.cell? ⟨Q, 1, none⟩ = some (.slice l1a (Ln + 1) l1c) := hb1.cell 1
  have hQl1 : Q < W1.heap.size := hb1.lt
  clear hb1

  go_wp2_with fail
  generalize hW2 : W1.alloc _ = W2
  have F2 : Fr No W1 W2 := by rw [← hW2]; exact (Fr.refl No W1).alloc _
  have hown2 : Own W2 W1.heap.size (.slice (some ⟨W1.heap.size, 0, none⟩) 1 1) [10] := by rw [← hW2]; exact own_new 10 (Nat.le_refl _)
  clear hW2
  have c0 := F2.cell c0 id
  have c1 := F2.cell c1 id
  have hF2 := Lib.hid F2
  have HO2 := Lib.hid hown2
  clear F2 hown2
  go_quiet (fail)
  generalize hW3 : W2.drewN _ = W3
  have F3 : Fr No W2 W3 := by rw [← hW3]; exact (Fr.refl No W2).drewN _
  clear hW3
  have FIN := Lib.hid (fun w4 v4 h4 hb => reftype_line (c := 13) (w4 := w4) (v4 := v4) HX.out HC.out (by have := HLN.out; omega) (.inl (by decide)) HPUT.out.1 HPUT.out.2.1 (hF2.out.trans F3 (fun _ _ h => h)) (by first | (rw [if_pos rfl]; exact HO2.out.fr F3 (fun _ _ => id)) | (rw [if_neg HN4.out]; exact HO2.out.fr F3 (fun _ _ => id))) h4 hb)
  have hr3 := HPUT.out.1.no (hF2.out.trans F3 (fun _ _ h => h))
  have c0 : W3.cell? ⟨Q, 0, none⟩ = some (.slice da dn.length dc) := hr3.2.1.cell 0
  have c1 : W3.cell? ⟨Q, 1, none⟩ = some (.slice l1a (Ln + 1) l1c) := hr3.2.1.cell 1
  have hbd := BSl.of_own hr3.2.2.1 (by omega)
  have hbl := BSl.of_own hr3.2.2.2.1 (by rw [List.length_append, List.length_singleton, ← HLN.out]; omega)
  have HR3 := Lib.hid hr3
  have HBD := Lib.hid hbd
  have HBL := Lib.hid hbl
  clear F3 hr3 hbd hbl

  go_wp2_with fail
  go_region_law (first
    | (go_simp; go_at_call 36; refine (joined_calls dn (ln ++ [10]) _ _ _ (HBD.out.no (Fr.refl No _).drew) (HBL.out.no (Fr.refl No _).drew) (by rw [List.length_append, List.length_singleton, ← HLN.out]; omega)).mono ?_; rintro e w4 ⟨v4, rfl, ho4, hb4⟩; obtain ⟨a4, b4, hv4⟩ := ho4.shape; obtain ⟨L4, hL4⟩ : ∃ L, L = (dn ++ (ln ++ [10])).length := ⟨_, rfl⟩; rw [← hL4] at hv4; subst hv4; clear hL4; have hC4 := (HR3.out.no (Fr.refl No _).drew).no (Fr.of_below hb4); have k0 : w4.cell? ⟨Q, 0, none⟩ = some (.slice da dn.length dc) := hC4.2.1.cell 0; have k1 : w4.cell? ⟨Q, 1, none⟩ = some (.slice l1a (Ln + 1) l1c) := hC4.2.1.cell 1; have g0 := hC4.2.1.free 0; have g1 := hC4.2.1.free 1; have HO4 := Lib.hid ho4; have HB4 := Lib.hid hb4; clear ho4 hb4 hC4))
  all_goals
    have FI := Lib.hid (FIN.out w4 _ (HO4.out.base (Nat.le_refl _)) (by exact (Fr.below_of (Below.refl _ W3) ((Fr.refl No W3).drew.trans (Fr.of_below HB4.out) (fun _ _ h => h)) (Nat.le_refl _) (fun _ h => h.elim))))
    go_wp2_with fail
    go_ret2
    exact FI.out

set_option maxRecDepth 100000 in
set_option maxHeartbeats 6400000 in
theorem reftype_lf (base Q : Nat) (dv lv : Value) (dn ln : List Int) (w : World) (h : RefC w base Q dv lv dn ln) (hl : dn.length + ln.length < 128) :
    Calls Tryd.prog 27 #[.pointer (some ⟨Q, 0, none⟩), .int .u8 10] w (RefTypePost base Q dv lv dn ln 10 w) := by
  obtain ⟨i0, hi, hz0, hz1, hz2⟩ := info_parts infoU8
  have c2 : w.cell? ⟨Q, 2, none⟩ = some (.bool true) := h.2.1.cell 2
  have HN4 := Lib.hid (show ¬ (10 : Int) = 4 by decide)
  have HX := Lib.hid (show (10 : Int) = tyC 10 from rfl)
  have HC := Lib.hid (show (10 : Int) ≠ 21 ∧ (10 : Int) ≠ 8 ∧ (10 : Int) ≠ 127 ∧ (10 : Int) ≠ 0 by decide)
  obtain ⟨la, lc, rfl, hlc, _⟩ := row_shape h.2.2.2.1
  obtain ⟨da, dc, rfl, hdc, _⟩ := row_shape h.2.2.1
  have c0 : w.cell? ⟨Q, 0, none⟩ = some (.slice da dn.length dc) := h.2.1.cell 0
  have c1 : w.cell? ⟨Q, 1, none⟩ = some (.slice la ln.length lc) := h.2.1.cell 1
  obtain ⟨Ln, hLn⟩ : ∃ Ln, Ln = ln.length := ⟨_, rfl⟩
  have hrow := h.2.2.2.1
  unfold Row at hrow
  rw [← hLn] at c1 hrow h hl hlc ⊢
  have hsum : IntKind.i64.wrap ((dn.length : Int) + Ln) = (dn.length : Int) + Ln := IntWalk.i64_in _ (by omega)
  have hge : decide ((128 : Int) ≤ (dn.length : Int) + Ln) = false := by simp; omega
  have hge2 : ¬ (128 : Int) ≤ (dn.length : Int) + Ln := by omega
  have H := Lib.hid h; clear h
  have HROW := Lib.hid hrow; clear hrow
  have HLN := Lib.hid hLn; clear hLn
  go_enter Tryd.func27, Tryd.ntmps27
  go_wp2_with (go_at_call 42; refine (refnone_calls Q _ c2).mono ?_; rintro e w' ⟨rfl, rfl⟩)
  go_quiet (fail)
  clear hsum hge hge2
  generalize hW0 : w.drewN _ = W0
  have F0 : Fr No w W0 := by rw [← hW0]; exact (Fr.refl No w).drewN _
  clear hW0
  have hb0 := (H.out.no F0).2.1
  have c1 : W0.cell? ⟨Q, 1, none⟩ = some (.slice la Ln lc) := hb0.cell 1
  have HF0 := Lib.hid F0
  have hrow0 := row_fr HROW.out F0 (fun _ _ => id)
  have HROW0 := Lib.hid hrow0
  have hsz0 : base ≤ W0.heap.size := (H.out.no F0).1
  clear hrow0 F0 hb0
  go_wp2_with (at_builtin; refine wpList_append_one rfl _ _ 22 rfl base 5 i0 (.int .u8 0) 1 Tryd.underlying22 hi hz0 hz1 hz2 rfl (.slice la Ln lc) Ln (ln.map (Value.int .u8)) rfl (HROW0.out.alloc _) _ _ (.int .u8 10) rfl ?cell rfl ?h63 ?hby ?hba ?_)
  case cell => exact (Blk.new _ [Value.int .u8 10] 5).cell 0
  case h63 => unfold maxLen; omega
  case hby => omega
  case hba => simp; omega
  intro lv1 w1 hown hf hn
  have hf := ((Fr.refl _ W0).alloc _).trans hf (fun _ _ h => h)
  have hput := reftype_put (x := 10) (w0 := W0) H.out HF0.out (by unfold Row; rw [List.length_append, List.length_singleton, ← HLN.out, List.map_append]; exact hown) hf (fun k hk => by
    rcases hn k hk with h1 | h1
    · exact .inl h1
    · have h2 : W0.heap.size + 1 ≤ k := by simpa using h1
      exact .inr (by omega))
  obtain ⟨l1a, l1c, rfl, hl1c, _⟩ := row_shape hown
  have hb1 : Blk w1 Q [.slice da dn.length dc, .slice la Ln lc, .bool true] 80 := (H.out.no HF0.out).2.1.fr hf (fun hh => H.out.lvQ Q hh.1 rfl)
  have c1 : w1.cell? ⟨Q, 1, none⟩ = some (.slice la Ln lc) := hb1.cell 1
  have f1 := hb1.free 1
  have HPUT := Lib.hid hput
  clear hput hown hf hn hb1
  go_upto_region 21 with fail
  generalize hW1 : World.setCell _ _ _ = W1 at HPUT ⊢
  clear hW1 c1 f1
  have hb1 := HPUT.out.1.2.1
  have c0 : W1.cell? ⟨Q, 0, none⟩ = some (.slice da dn.length dc) := hb1.cell 0
  have c1 : W1.cell? ⟨Q, 1, none⟩ = some (.slice l1a (Ln + 1) l1c) := hb1.cell 1
  have hQl1 : Q < W1.heap.size := hb1.lt
  clear hb1

  go_wp2_with fail
  generalize hW2 : W1.alloc _ = W2
  have F2 : Fr No W1 W2 := by rw [← hW2]; exact (Fr.refl No W1).alloc _
  have hown2 : Own W2 W1.heap.size (.slice (some ⟨W1.heap.size, 0, none⟩) 1 1) [10] := by rw [← hW2]; exact own_new 10 (Nat.le_refl _)
  clear hW2
  have c0 := F2.cell c0 id
  have c1 := F2.cell c1 id
  have hF2 := Lib.hid F2
  have HO2 := Lib.hid hown2
  clear F2 hown2
  go_quiet (fail)
  generalize hW3 : W2.drewN _ = W3
  have F3 : Fr No W2 W3 := by rw [← hW3]; exact (Fr.refl No W2).drewN _
  clear hW3
  have FIN := Lib.hid (fun w4 v4 h4 hb => reftype_line (c := 10) (w4 := w4) (v4 := v4) HX.out HC.out (by have := HLN.out; omega) (.inl (by decide)) HPUT.out.1 HPUT.out.2.1 (hF2.out.trans F3 (fun _ _ h => h)) (by first | (rw [if_pos rfl]; exact HO2.out.fr F3 (fun _ _ => id)) | (rw [if_neg HN4.out]; exact HO2.out.fr F3 (fun _ _ => id))) h4 hb)
  have hr3 := HPUT.out.1.no (hF2.out.trans F3 (fun _ _ h => h))
  have c0 : W3.cell? ⟨Q, 0, none⟩ = some (.slice da dn.length dc) := hr3.2.1.cell 0
  have c1 : W3.cell? ⟨Q, 1, none⟩ = some (.slice l1a (Ln + 1) l1c) := hr3.2.1.cell 1
  have hbd := BSl.of_own hr3.2.2.1 (by omega)
  have hbl := BSl.of_own hr3.2.2.2.1 (by rw [List.length_append, List.length_singleton, ← HLN.out]; omega)
  have HR3 := Lib.hid hr3
  have HBD := Lib.hid hbd
  have HBL := Lib.hid hbl
  clear F3 hr3 hbd hbl

  go_wp2_with fail
  go_region_law (first
    | (go_simp; go_at_call 36; refine (joined_calls dn (ln ++ [10]) _ _ _ (HBD.out.no (Fr.refl No _).drew) (HBL.out.no (Fr.refl No _).drew) (by rw [List.length_append, List.length_singleton, ← HLN.out]; omega)).mono ?_; rintro e w4 ⟨v4, rfl, ho4, hb4⟩; obtain ⟨a4, b4, hv4⟩ := ho4.shape; obtain ⟨L4, hL4⟩ : ∃ L, L = (dn ++ (ln ++ [10])).length := ⟨_, rfl⟩; rw [← hL4] at hv4; subst hv4; clear hL4; have hC4 := (HR3.out.no (Fr.refl No _).drew).no (Fr.of_below hb4); have k0 : w4.cell? ⟨Q, 0, none⟩ = some (.slice da dn.length dc) := hC4.2.1.cell 0; have k1 : w4.cell? ⟨Q, 1, none⟩ = some (.slice l1a (Ln + 1) l1c) := hC4.2.1.cell 1; have g0 := hC4.2.1.free 0; have g1 := hC4.2.1.free 1; have HO4 := Lib.hid ho4; have HB4 := Lib.hid hb4; clear ho4 hb4 hC4))
  all_goals
    have FI := Lib.hid (FIN.out w4 _ (HO4.out.base (Nat.le_refl _)) (by exact (Fr.below_of (Below.refl _ W3) ((Fr.refl No W3).drew.trans (Fr.of_below HB4.out) (fun _ _ h => h)) (Nat.le_refl _) (fun _ h => h.elim))))
    go_wp2_with fail
    go_ret2
    exact FI.out

set_option maxRecDepth 100000 in
set_option maxHeartbeats 6400000 in
theorem reftype_end (base Q : Nat) (dv lv : Value) (dn ln : List Int) (w : World) (h : RefC w base Q dv lv dn ln) (hl : dn.length + ln.length < 128) :
    Calls Tryd.prog 27 #[.pointer (some ⟨Q, 0, none⟩), .int .u8 4] w (RefTypePost base Q dv lv dn ln 4 w) := by
  obtain ⟨i0, hi, hz0, hz1, hz2⟩ := info_parts infoU8
  have c2 : w.cell? ⟨Q, 2, none⟩ = some (.bool true) := h.2.1.cell 2
  have HN4 := Lib.hid (show (4 : Int) = 4 by decide)
  have HX := Lib.hid (show (4 : Int) = tyC 4 from rfl)
  have HC := Lib.hid (show (4 : Int) ≠ 21 ∧ (4 : Int) ≠ 8 ∧ (4 : Int) ≠ 127 ∧ (4 : Int) ≠ 0 by decide)
  obtain ⟨la, lc, rfl, hlc, _⟩ := row_shape h.2.2.2.1
  obtain ⟨da, dc, rfl, hdc, _⟩ := row_shape h.2.2.1
  have c0 : w.cell? ⟨Q, 0, none⟩ = some (.slice da dn.length dc) := h.2.1.cell 0
  have c1 : w.cell? ⟨Q, 1, none⟩ = some (.slice la ln.length lc) := h.2.1.cell 1
  obtain ⟨Ln, hLn⟩ : ∃ Ln, Ln = ln.length := ⟨_, rfl⟩
  have hrow := h.2.2.2.1
  unfold Row at hrow
  rw [← hLn] at c1 hrow h hl hlc ⊢
  have hsum : IntKind.i64.wrap ((dn.length : Int) + Ln) = (dn.length : Int) + Ln := IntWalk.i64_in _ (by omega)
  have hge : decide ((128 : Int) ≤ (dn.length : Int) + Ln) = false := by simp; omega
  have hge2 : ¬ (128 : Int) ≤ (dn.length : Int) + Ln := by omega
  have H := Lib.hid h; clear h
  have HROW := Lib.hid hrow; clear hrow
  have HLN := Lib.hid hLn; clear hLn
  go_enter Tryd.func27, Tryd.ntmps27
  go_wp2_with (go_at_call 42; refine (refnone_calls Q _ c2).mono ?_; rintro e w' ⟨rfl, rfl⟩)
  go_quiet (fail)
  clear hsum hge hge2
  generalize hW0 : w.drewN _ = W0
  have F0 : Fr No w W0 := by rw [← hW0]; exact (Fr.refl No w).drewN _
  clear hW0
  have hb0 := (H.out.no F0).2.1
  have c1 : W0.cell? ⟨Q, 1, none⟩ = some (.slice la Ln lc) := hb0.cell 1
  have HF0 := Lib.hid F0
  have hrow0 := row_fr HROW.out F0 (fun _ _ => id)
  have HROW0 := Lib.hid hrow0
  have hsz0 : base ≤ W0.heap.size := (H.out.no F0).1
  clear hrow0 F0 hb0
  go_wp2_with (at_builtin; refine wpList_append_one rfl _ _ 22 rfl base 5 i0 (.int .u8 0) 1 Tryd.underlying22 hi hz0 hz1 hz2 rfl (.slice la Ln lc) Ln (ln.map (Value.int .u8)) rfl (HROW0.out.alloc _) _ _ (.int .u8 4) rfl ?cell rfl ?h63 ?hby ?hba ?_)
  case cell => exact (Blk.new _ [Value.int .u8 4] 5).cell 0
  case h63 => unfold maxLen; omega
  case hby => omega
  case hba => simp; omega
  intro lv1 w1 hown hf hn
  have hf := ((Fr.refl _ W0).alloc _).trans hf (fun _ _ h => h)
  have hput := reftype_put (x := 4) (w0 := W0) H.out HF0.out (by unfold Row; rw [List.length_append, List.length_singleton, ← HLN.out, List.map_append]; exact hown) hf (fun k hk => by
    rcases hn k hk with h1 | h1
    · exact .inl h1
    · have h2 : W0.heap.size + 1 ≤ k := by simpa using h1
      exact .inr (by omega))
  obtain ⟨l1a, l1c, rfl, hl1c, _⟩ := row_shape hown
  have hb1 : Blk w1 Q [.slice da dn.length dc, .slice la Ln lc, .bool true] 80 := (H.out.no HF0.out).2.1.fr hf (fun hh => H.out.lvQ Q hh.1 rfl)
  have c1 : w1.cell? ⟨Q, 1, none⟩ = some (.slice la Ln lc) := hb1.cell 1
  have f1 := hb1.free 1
  have HPUT := Lib.hid hput
  clear hput hown hf hn hb1
  go_upto_region 21 with fail
  generalize hW1 : World.setCell _ _ _ = W1 at HPUT ⊢
  clear hW1 c1 f1
  have hb1 := HPUT.out.1.2.1
  have c0 : W1.cell? ⟨Q, 0, none⟩ = some (.slice da dn.length dc) := hb1.cell 0
  have c1 : W1.cell? ⟨Q, 1, none⟩ = some (.slice l1a (Ln + 1) l1c) := hb1.cell 1
  have hQl1 : Q < W1.heap.size := hb1.lt
  clear hb1

  go_wp2_with fail
  generalize hW2 : W1.alloc _ = W2
  have F2 : Fr No W1 W2 := by rw [← hW2]; exact (Fr.refl No W1).alloc _
  have hown2 : Own W2 W1.heap.size (.slice none 0 0) [] := by exact own_nil _ _
  clear hW2
  have c0 := F2.cell c0 id
  have c1 := F2.cell c1 id
  have hF2 := Lib.hid F2
  have HO2 := Lib.hid hown2
  clear F2 hown2
  go_quiet (fail)
  generalize hW3 : W2.drewN _ = W3
  have F3 : Fr No W2 W3 := by rw [← hW3]; exact (Fr.refl No W2).drewN _
  clear hW3
  have FIN := Lib.hid (fun w4 v4 h4 hb => reftype_line (c := 4) (w4 := w4) (v4 := v4) HX.out HC.out (by have := HLN.out; omega) (.inl (by decide)) HPUT.out.1 HPUT.out.2.1 (hF2.out.trans F3 (fun _ _ h => h)) (by first | (rw [if_pos rfl]; exact HO2.out.fr F3 (fun _ _ => id)) | (rw [if_neg HN4.out]; exact HO2.out.fr F3 (fun _ _ => id))) h4 hb)
  have hr3 := HPUT.out.1.no (hF2.out.trans F3 (fun _ _ h => h))
  have c0 : W3.cell? ⟨Q, 0, none⟩ = some (.slice da dn.length dc) := hr3.2.1.cell 0
  have c1 : W3.cell? ⟨Q, 1, none⟩ = some (.slice l1a (Ln + 1) l1c) := hr3.2.1.cell 1
  have hbd := BSl.of_own hr3.2.2.1 (by omega)
  have hbl := BSl.of_own hr3.2.2.2.1 (by rw [List.length_append, List.length_singleton, ← HLN.out]; omega)
  have HR3 := Lib.hid hr3
  have HBD := Lib.hid hbd
  have HBL := Lib.hid hbl
  clear F3 hr3 hbd hbl

  go_wp2_with fail
  go_region_law (first
    | (go_simp; go_at_call 36; refine (joined_calls dn (ln ++ [4]) _ _ _ (HBD.out.no (Fr.refl No _).drew) (HBL.out.no (Fr.refl No _).drew) (by rw [List.length_append, List.length_singleton, ← HLN.out]; omega)).mono ?_; rintro e w4 ⟨v4, rfl, ho4, hb4⟩; obtain ⟨a4, b4, hv4⟩ := ho4.shape; obtain ⟨L4, hL4⟩ : ∃ L, L = (dn ++ (ln ++ [4])).length := ⟨_, rfl⟩; rw [← hL4] at hv4; subst hv4; clear hL4; have hC4 := (HR3.out.no (Fr.refl No _).drew).no (Fr.of_below hb4); have k0 : w4.cell? ⟨Q, 0, none⟩ = some (.slice da dn.length dc) := hC4.2.1.cell 0; have k1 : w4.cell? ⟨Q, 1, none⟩ = some (.slice l1a (Ln + 1) l1c) := hC4.2.1.cell 1; have g0 := hC4.2.1.free 0; have g1 := hC4.2.1.free 1; have HO4 := Lib.hid ho4; have HB4 := Lib.hid hb4; clear ho4 hb4 hC4))
  all_goals
    have FI := Lib.hid (FIN.out w4 _ (HO4.out.base (Nat.le_refl _)) (by exact (Fr.below_of (Below.refl _ W3) ((Fr.refl No W3).drew.trans (Fr.of_below HB4.out) (fun _ _ h => h)) (Nat.le_refl _) (fun _ h => h.elim))))
    go_wp2_with fail
    go_ret2
    exact FI.out

theorem reftype_calls (base Q : Nat) (dv lv : Value) (dn ln : List Int) (c : Int) (w : World) (h : RefC w base Q dv lv dn ln) (hl : dn.length + ln.length ≤ 128) :
    Calls Tryd.prog 27 #[.pointer (some ⟨Q, 0, none⟩), .int .u8 c] w (RefTypePost base Q dv lv dn ln c w) := by
  by_cases h0 : c = 0
  · subst h0; exact reftype_zero base Q dv lv dn ln w h
  · by_cases h21 : c = 21
    · subst h21; exact reftype_kill base Q dv lv dn ln w h (by omega)
    · by_cases h8 : c = 8 ∨ c = 127
      · exact reftype_erase base Q dv lv dn ln c w h (by omega) h8
      · by_cases hf : dn.length + ln.length = 128
        · exact reftype_full base Q dv lv dn ln c w h hf (by omega)
        · by_cases h13 : c = 13
          · subst h13; exact reftype_cr base Q dv lv dn ln w h (by omega)
          · by_cases h10 : c = 10
            · subst h10; exact reftype_lf base Q dv lv dn ln w h (by omega)
            · by_cases h4 : c = 4
              · subst h4; exact reftype_end base Q dv lv dn ln w h (by omega)
              · by_cases hm : dn.length + ln.length + 1 < 128
                · exact reftype_go base Q dv lv dn ln c w h (by omega) hm (by omega)
                · exact reftype_last base Q dv lv dn ln c w h (by omega) (by omega) (by omega)

end Go.Proofs.YtollgpnaadgncaaDoor
